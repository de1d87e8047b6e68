/-
  How much a directed rounding loses; which multiples floats are; how small a difference of floats can be.
  Products, quotients, differences of intervals: where there is no error the ends are rounded outwards from the exact ones; there is none where these are plain.
-/
import Derived.Test.YtjlibljfpkmpfaaGreatDoorSv11
import Derived.Test.YtjlibljfpkmpfaaGreatDoorSv21
section
namespace Go.Enc.Fl
open Ieee
/-- A float's last digit, beside its number. -/
abbrev eps : Rat := 1 / 4503599627370496
theorem V_gap {r : Nat} (h : 2 ^ 52 ≤ r) : V r ≤ V (r + 1) ∧ 2 ^ 52 * (V (r + 1) - V r) ≤ V r := by
  obtain ⟨q, k, h1, h2, h3, h4, h5⟩ := V_parts r
  have hk : 2 ^ 52 ≤ k := by
    rcases h3 with h3 | h3
    · subst h3; omega
    · exact h3
  rw [h4, h5]
  have e : (k + 1) * 2 ^ q = k * 2 ^ q + 2 ^ q := by rw [Nat.add_mul, Nat.one_mul]
  rw [e]
  refine ⟨Nat.le_add_right _ _, ?_⟩
  rw [Nat.add_sub_cancel_left]
  exact Nat.mul_le_mul_right _ hk
theorem v_gap {r : Nat} (h : 2 ^ 52 ≤ r) : v ((r : Int) + 1) - v r ≤ eps * v r := by
  obtain ⟨h1, h2⟩ := V_gap h
  have e : ((r : Int) + 1) = ((r + 1 : Nat) : Int) := by omega
  rw [e, v_nat, v_nat]
  have hu := u_pos
  have h3 : ((2 ^ 52 * (V (r + 1) - V r) : Nat) : Rat) ≤ (V r : Rat) := by exact_mod_cast h2
  have h4 : ((2 ^ 52 * (V (r + 1) - V r) : Nat) : Rat) = 4503599627370496 * ((V (r + 1) : Rat) - V r) := by
    obtain ⟨g, hg⟩ := Nat.exists_eq_add_of_le h1
    rw [hg, Nat.add_sub_cancel_left, Rat.natCast_mul, Rat.natCast_add]
    have : ((2 ^ 52 : Nat) : Rat) = 4503599627370496 := rfl
    rw [this]
    grind
  rw [h4] at h3
  have h5 := Rat.mul_le_mul_of_nonneg_right h3 (Rat.le_of_lt hu)
  unfold eps
  grind
/-- What rounding down loses. -/
theorem Dn.err {x : Rat} {i : Int} (h : Dn x i) (hx : x = 0 ∨ v p0 ≤ x ∨ x ≤ v (-p0)) : x - v i ≤ eps * x ∨ x - v i ≤ eps * -x := by
  have hp := p0_lt
  have hp52 : (2 : Int) ^ 52 + 1 < p0 := by unfold p0; omega
  rcases hx with rfl | hx | hx
  · have h1 := h.ge (j := 0) (by rw [v_zero]; exact Rat.le_refl)
    have h2 := v_le h1
    rw [v_zero] at h2
    left
    grind
  · have h1 := h.ge hx
    obtain ⟨r, rfl⟩ := Int.eq_ofNat_of_zero_le (show 0 ≤ i by omega)
    have h2 := v_gap (r := r) (by omega)
    have h3 := h.1
    have h4 := h.2
    left
    have : (0 : Rat) < eps := by unfold eps; decide +kernel
    have h5 := Rat.mul_le_mul_of_nonneg_left h3 (Rat.le_of_lt this)
    grind
  · have h1 : i ≤ -p0 := v_le_iff.1 (Rat.le_trans h.1 hx)
    obtain ⟨r, hr⟩ := Int.eq_ofNat_of_zero_le (show 0 ≤ -i - 1 by omega)
    have h2 := v_gap (r := r) (by omega)
    have h3 := h.1
    have h4 := h.2
    have e1 : i = -((r : Int) + 1) := by omega
    have e2 : i + 1 = -(r : Int) := by omega
    rw [e2, v_neg] at h4
    rw [e1, v_neg] at h3
    rw [e1, v_neg]
    right
    have : (0 : Rat) < eps := by unfold eps; decide +kernel
    have h5 : eps * v r ≤ eps * -x := Rat.mul_le_mul_of_nonneg_left (by grind) (Rat.le_of_lt this)
    grind
/-- Far enough from 0 and from beyond. -/
def Pl (x : Rat) : Prop := x = 0 ∨ (v p0 ≤ x ∧ x ≤ v p1) ∨ (v (-p1) ≤ x ∧ x ≤ v (-p0))
theorem Pl.low {x : Rat} (h : Pl x) : x = 0 ∨ v p0 ≤ x ∨ x ≤ v (-p0) := by
  rcases h with h | h | h
  · exact .inl h
  · exact .inr (.inl h.1)
  · exact .inr (.inr h.2)
theorem Pl.neg {x : Rat} (h : Pl x) : Pl (-x) := by
  unfold Pl at *
  rw [v_neg, v_neg] at *
  grind
/-- Rounded down, it is plain. -/
theorem DnK.okOf {x : Rat} {k : Int} (h : DnK x k) (hp : Pl x) : ok k := by
  have hq := p0_lt
  rcases hp with rfl | ⟨h1, h2⟩ | ⟨h1, h2⟩
  · have h3 := h.mono (dnk_self (k := 0) (.inl rfl)) (by rw [v_zero]; exact Rat.le_refl)
    have h4 := (dnk_self (k := 0) (.inl rfl)).mono h (by rw [v_zero]; exact Rat.le_refl)
    exact .inl (by omega)
  · have h3 := h.mono (dnk_self (k := p1) (.inr (.inl ⟨by omega, by omega⟩))) h2
    have h4 := (dnk_self (k := p0) (.inr (.inl ⟨by omega, by omega⟩))).mono h h1
    exact .inr (.inl ⟨by omega, by omega⟩)
  · have h3 := h.mono (dnk_self (k := -p0) (.inr (.inr ⟨by omega, by omega⟩))) h2
    have h4 := (dnk_self (k := -p1) (.inr (.inr ⟨by omega, by omega⟩))).mono h h1
    exact .inr (.inr ⟨by omega, by omega⟩)
theorem UpK.okOf {x : Rat} {k : Int} (h : UpK x k) (hp : Pl x) : ok k := by
  have := ok_neg (DnK.okOf h hp.neg)
  rwa [Int.neg_neg] at this
theorem v_pow {z : Int} (h1 : -900 ≤ z) (h2 : z ≤ 900) : ∃ i, v i = (2 : Rat) ^ z ∧ 0 < i := by
  refine ⟨pw (z + 1023).toNat, ?_, ?_⟩
  · rw [v_pw _ (by omega)]
    congr 1
    omega
  · unfold pw; omega
/-- A power of two bounds what is rounded. -/
theorem Dn.pow_le {x : Rat} {i : Int} (h : Dn x i) {z : Int} (h1 : -900 ≤ z) (h2 : z ≤ 900) (hx : (2 : Rat) ^ z ≤ x) : (2 : Rat) ^ z ≤ v i := by
  obtain ⟨j, hj, _⟩ := v_pow h1 h2
  rw [← hj] at hx ⊢
  exact v_le (h.ge hx)
/-- A float of some amount is a multiple of a small power. -/
theorem gran {i z : Int} (h : (2 : Rat) ^ z ≤ v i ∨ v i ≤ -(2 : Rat) ^ z) : ∃ k : Int, v i = (k : Rat) * 2 ^ (z - 53) := by
  have pos : ∀ {i : Int}, (2 : Rat) ^ z ≤ v i → ∃ k : Int, v i = (k : Rat) * 2 ^ (z - 53) := fun {i} h => by
    have hi : 0 ≤ i := by
      rcases Int.lt_or_le i 0 with h1 | h1
      · have h2 := v_lt (i := i) (j := 0) h1
        rw [v_zero] at h2
        have := zpow2_pos z
        grind
      · exact h1
    obtain ⟨r, rfl⟩ := Int.eq_ofNat_of_zero_le hi
    rcases grid_v r (z - 53) with g | g
    · have e : ((2 ^ 53 : Nat) : Rat) * (2 : Rat) ^ (z - 53) = 2 ^ z := by
        rw [← zpow2_nat, ← zpow2_add]
        congr 1
        omega
      rw [e] at g
      refine ⟨((2 ^ 53 : Nat) : Int), ?_⟩
      rw [Rat.intCast_natCast, e]
      exact Rat.le_antisymm g h
    · exact g
  rcases h with h | h
  · exact pos h
  · obtain ⟨k, hk⟩ := pos (i := -i) (by rw [v_neg]; grind)
    rw [v_neg] at hk
    exact ⟨-k, by rw [Rat.intCast_neg]; grind⟩
/-- A difference of two multiples is 0 or not small. -/
theorem mult_low {a b : Int} {c : Rat} (hc : 0 < c) : (a : Rat) * c - (b : Rat) * c = 0 ∨ c ≤ (a : Rat) * c - (b : Rat) * c ∨ (a : Rat) * c - (b : Rat) * c ≤ -c := by
  rcases Int.lt_trichotomy a b with h | h | h
  · have h1 : (a : Rat) + 1 ≤ (b : Rat) := by exact_mod_cast h
    have := Rat.mul_le_mul_of_nonneg_right h1 (Rat.le_of_lt hc)
    grind
  · subst h; left; grind
  · have h1 : (b : Rat) + 1 ≤ (a : Rat) := by exact_mod_cast h
    have := Rat.mul_le_mul_of_nonneg_right h1 (Rat.le_of_lt hc)
    grind
/-- 0, or of some amount. -/
def Lw (L : Int) (x : Rat) : Prop := x = 0 ∨ (2 : Rat) ^ (-L) ≤ x ∨ x ≤ -(2 : Rat) ^ (-L)
theorem Lw.mono {a b : Int} (h : a ≤ b) {x : Rat} (k : Lw a x) : Lw b x := by
  have := zpow_le (a := -b) (b := -a) (by omega)
  unfold Lw at *
  grind
theorem Lw.neg {a : Int} {x : Rat} (k : Lw a x) : Lw a (-x) := by unfold Lw at *; grind
theorem Lw.mul {a b : Int} {x y : Rat} (h : Lw a x) (k : Lw b y) : Lw (a + b) (x * y) := by
  have pos : ∀ {x y : Rat}, (2 : Rat) ^ (-a) ≤ x → (2 : Rat) ^ (-b) ≤ y → (2 : Rat) ^ (-(a + b)) ≤ x * y := fun {x y} h k => by
    have e : (2 : Rat) ^ (-(a + b)) = 2 ^ (-a) * 2 ^ (-b) := by rw [← zpow2_add]; congr 1; omega
    rw [e]
    have h0 := zpow2_pos (-a)
    have h1 := zpow2_pos (-b)
    have h2 := Rat.mul_le_mul_of_nonneg_right h (Rat.le_of_lt h1)
    have h3 := Rat.mul_le_mul_of_nonneg_left k (c := x) (by grind)
    grind
  rcases h with rfl | h | h
  · exact .inl (by grind)
  · rcases k with rfl | k | k
    · exact .inl (by grind)
    · exact .inr (.inl (pos h k))
    · have := pos h (y := -y) (by grind)
      exact .inr (.inr (by grind))
  · rcases k with rfl | k | k
    · exact .inl (by grind)
    · have := pos (x := -x) (by grind) k
      exact .inr (.inr (by grind))
    · have := pos (x := -x) (y := -y) (by grind) (by grind)
      exact .inr (.inl (by grind))
theorem Lw.sub {a b : Int} {i j : Int} (h : Lw a (v i)) (k : Lw b (v j)) {c : Int} (hb : b ≤ c) (ha : a + 54 ≤ c) : Lw c (v i - v j) := by
  have hac : a ≤ c := by omega
  rcases h with h | h
  · rw [h]
    have := (Lw.mono hb k).neg
    unfold Lw at *
    grind
  rcases k with k | k
  · rw [k]
    have := Lw.mono hac (.inr h)
    unfold Lw at *
    grind
  have hz := zpow2_pos (-a)
  have e1 : (2 : Rat) ^ (-a) = 2 ^ (-a - 1) * 2 := by
    rw [show (-a : Int) = (-a - 1) + 1 by omega, zpow2_add]
    congr 1
    rw [show (-a - 1 + 1 - 1 : Int) = -a - 1 by omega]
  by_cases hs : (2 : Rat) ^ (-a - 1) ≤ v j ∨ v j ≤ -(2 : Rat) ^ (-a - 1)
  · obtain ⟨x, hx⟩ := gran (z := -a - 1) (i := i) (by grind)
    obtain ⟨y, hy⟩ := gran (z := -a - 1) hs
    rw [hx, hy]
    have := mult_low (a := x) (b := y) (zpow2_pos (-a - 1 - 53))
    have h3 := zpow_le (a := -c) (b := -a - 1 - 53) (by omega)
    unfold Lw
    grind
  · have h3 := zpow_le (a := -c) (b := -a - 1) (by omega)
    unfold Lw
    grind
end Go.Enc.Fl
end
section
set_option linter.unusedSimpArgs false
set_option maxRecDepth 100000
namespace Go.Enc
open Go.Proofs Go.Enc.Fl
/-- The ends of an interval. -/
def iL (X : Nat × Nat) : Rat := v (idx X.1)
def iH (X : Nat × Nat) : Rat := v (idx X.2)
def iE (X : Nat × Nat) (j : Nat) : Rat := if j = 0 then iL X else iH X
theorem gd_ok1 {a : Nat × Nat} (g : Gd a) : OkB a.1 := plain_ok g.p1 g.l1
theorem gd_ok2 {a : Nat × Nat} (g : Gd a) : OkB a.2 := plain_ok g.p2 g.l2
theorem gd_two {a : Nat × Nat} (g : Gd a) (j : Nat) : OkB (two a.1 a.2 j) := by
  unfold two
  split
  · exact gd_ok1 g
  · exact gd_ok2 g
theorem twoE (a : Nat × Nat) (j : Nat) : v (idx (two a.1 a.2 j)) = iE a j := by
  unfold two iE iL iH
  split <;> rfl
theorem Gd.iLH {a : Nat × Nat} (g : Gd a) : iL a ≤ iH a := v_le g.le
/-- Rounded outwards from these corners. -/
structure Rnds (X : Nat → Nat → Rat) (r : Nat × Nat) : Prop where
  gd : Gd r
  all : ∀ j k, j < 2 → k < 2 → iL r ≤ X j k ∧ X j k ≤ iH r
  dn : ∃ j k, j < 2 ∧ k < 2 ∧ Dn (X j k) (idx r.1)
  up : ∃ j k, j < 2 ∧ k < 2 ∧ Up (X j k) (idx r.2)
/-- An interval, or an error of an operation. -/
abbrev AnsQ := (Nat × Nat) × Option (ByteArray × D)
def errQ : Option (ByteArray × D) → D
  | none => .v .nilIface
  | some (s, d) => opE s d
structure Res3 (X : Nat → Nat → Rat) (R : AnsQ) : Prop where
  good : R.2 = none → Rnds X R.1
  bad : R.2 ≠ none → R.1 = (0, 0)
  pl : (∀ j k, j < 2 → k < 2 → Pl (X j k)) → R.2 = none
theorem low_of' {X : Rat} {k l : Int} (h : DnK X k) (hl : ok l) (hle : l ≤ k) : v l ≤ X := by
  refine Rat.not_lt.1 fun hx => ?_
  have h1 := h.mono (dnk_self hl) (Rat.le_of_lt hx)
  obtain rfl : k = l := by omega
  have := (h.val hl).1
  grind
theorem high_of' {X : Rat} {k l : Int} (h : UpK X k) (hl : ok l) (hle : k ≤ l) : X ≤ v l := by
  refine Rat.not_lt.1 fun hx => ?_
  have h1 := (upk_self hl).mono h (Rat.le_of_lt hx)
  obtain rfl : k = l := by omega
  have := (UpK.val h hl).2
  grind
theorem min4q {a b c d : Int} : ∃ n, n < 4 ∧ min (min (min a b) c) d = (if n = 0 then a else if n = 1 then b else if n = 2 then c else d) := by
  rcases (show min (min (min a b) c) d = a ∨ min (min (min a b) c) d = b ∨ min (min (min a b) c) d = c ∨ min (min (min a b) c) d = d by omega) with h | h | h | h
  · exact ⟨0, by omega, h⟩
  · exact ⟨1, by omega, h⟩
  · exact ⟨2, by omega, h⟩
  · exact ⟨3, by omega, h⟩
theorem max4q {a b c d : Int} : ∃ n, n < 4 ∧ max (max (max a b) c) d = (if n = 0 then a else if n = 1 then b else if n = 2 then c else d) := by
  rcases (show max (max (max a b) c) d = a ∨ max (max (max a b) c) d = b ∨ max (max (max a b) c) d = c ∨ max (max (max a b) c) d = d by omega) with h | h | h | h
  · exact ⟨0, by omega, h⟩
  · exact ⟨1, by omega, h⟩
  · exact ⟨2, by omega, h⟩
  · exact ⟨3, by omega, h⟩
/-- An operation at all four corners. -/
theorem corners_q {E : Nat → Option Value} {q : Nat → Addr} (hq : Sent E q) {F : FuncId} (hF : isP F = false) (op : ByteArray) {x0 x1 y0 y1 : Nat} (X : Nat → Nat → Rat)
    (hc : ∀ j k, j < 2 → k < 2 → ∃ l h, Corner E F op (two x0 x1 j) (two y0 y1 k) l h ∧ DnK (X j k) (K (idx l)) ∧ UpK (X j k) (K (idx h))) :
    ∃ R : AnsQ, DCall Tryz.prog E 87 [strD op, ivD (x0, x1), ivD (y0, y1), .v (.func (.func F) #[] #[])] (.data (.tup [ivD R.1, errQ R.2])) ∧ Res3 X R := by
  have hc' : ∀ n, ∃ p : Nat × Nat, n < 4 → Corner E F op (two x0 x1 (n / 2)) (two y0 y1 (n % 2)) p.1 p.2 ∧ DnK (X (n / 2) (n % 2)) (K (idx p.1)) ∧ UpK (X (n / 2) (n % 2)) (K (idx p.2)) := fun n => by
    by_cases hn : n < 4
    · obtain ⟨l, h, h1⟩ := hc (n / 2) (n % 2) (by omega) (by omega)
      exact ⟨(l, h), fun _ => h1⟩
    · exact ⟨(0, 0), fun h => absurd h hn⟩
  have ⟨f, hf⟩ := Classical.axiomOfChoice hc'
  let ls : Nat → Nat := fun n => (f n).1
  let hs : Nat → Nat := fun n => (f n).2
  have hcs : ∀ j k, j < 2 → k < 2 → Corner E F op (two x0 x1 j) (two y0 y1 k) (ls (2 * j + k)) (hs (2 * j + k)) := fun j k hj hk => by
    have h := (hf (2 * j + k) (by omega)).1
    rw [show (2 * j + k) / 2 = j by omega, show (2 * j + k) % 2 = k by omega] at h
    exact h
  have hl : ∀ n, n < 4 → Num (ls n) ∧ ls n < 18446744073709551616 := fun n hn => ⟨(hf n hn).1.ln, (hf n hn).1.ll⟩
  have hh : ∀ n, n < 4 → Num (hs n) ∧ hs n < 18446744073709551616 := fun n hn => ⟨(hf n hn).1.hn, (hf n hn).1.hl⟩
  have hcor := corners_c hq hF op hcs
  have l4 := (loS_spec hl 4 (by omega)).2
  have h4 := (hiS_spec hh 4 (by omega)).2
  have i0 : idx (loS ls 0) = (inf : Int) := by show idx 9218868437227405312 = _; decide
  have j0 : idx (hiS hs 0) = -(inf : Int) := by show idx 18442240474082181120 = _; decide
  have a1 := (loS_pick hl (n := 0) (by omega)).2
  have a2 := (loS_pick hl (n := 1) (by omega)).2
  have a3 := (loS_pick hl (n := 2) (by omega)).2
  have a4 := (loS_pick hl (n := 3) (by omega)).2
  have b1 := (hiS_pick hh (n := 0) (by omega)).2
  have b2 := (hiS_pick hh (n := 1) (by omega)).2
  have b3 := (hiS_pick hh (n := 2) (by omega)).2
  have b4 := (hiS_pick hh (n := 3) (by omega)).2
  have bl : ∀ n, n < 4 → idx (ls n) ≤ inf := fun n hn => (idx_num (hl n hn).1).2
  have bh : ∀ n, n < 4 → -(inf : Int) ≤ idx (hs n) := fun n hn => (idx_num (hh n hn).1).1
  have eL : idx (loS ls 4) = min (min (min (idx (ls 0)) (idx (ls 1))) (idx (ls 2))) (idx (ls 3)) := by
    rw [a4, a3, a2, a1, i0, Int.min_eq_right (bl 0 (by omega))]
  have eH : idx (hiS hs 4) = max (max (max (idx (hs 0)) (idx (hs 1))) (idx (hs 2))) (idx (hs 3)) := by
    rw [b4, b3, b2, b1, j0, Int.max_eq_right (bh 0 (by omega))]
  obtain ⟨nl, hnl, enl⟩ : ∃ n, n < 4 ∧ idx (loS ls 4) = idx (ls n) := by
    obtain ⟨n, hn, e⟩ := min4q (a := idx (ls 0)) (b := idx (ls 1)) (c := idx (ls 2)) (d := idx (ls 3))
    refine ⟨n, hn, ?_⟩
    rw [eL, e]
    rcases (show n = 0 ∨ n = 1 ∨ n = 2 ∨ n = 3 by omega) with rfl | rfl | rfl | rfl <;> rfl
  obtain ⟨nh, hnh, enh⟩ : ∃ n, n < 4 ∧ idx (hiS hs 4) = idx (hs n) := by
    obtain ⟨n, hn, e⟩ := max4q (a := idx (hs 0)) (b := idx (hs 1)) (c := idx (hs 2)) (d := idx (hs 3))
    refine ⟨n, hn, ?_⟩
    rw [eH, e]
    rcases (show n = 0 ∨ n = 1 ∨ n = 2 ∨ n = 3 by omega) with rfl | rfl | rfl | rfl <;> rfl
  unfold endsP at hcor
  by_cases hp : plainB (loS ls 4) = false ∨ plainB (hiS hs 4) = false
  · rw [if_pos hp] at hcor
    refine ⟨((0, 0), some (op, eD q 2)), hcor, ⟨fun h => (by cases h), fun _ => rfl, fun hX => ?_⟩⟩
    exfalso
    have o1 : ok (idx (loS ls 4)) := by
      rw [enl]
      have := DnK.okOf (hf nl hnl).2.1 (hX _ _ (by omega) (by omega))
      exact (K_ok _).1.1 this
    have o2 : ok (idx (hiS hs 4)) := by
      rw [enh]
      have := UpK.okOf (hf nh hnh).2.2 (hX _ _ (by omega) (by omega))
      exact (K_ok _).1.1 this
    rw [ok_plain o1, ok_plain o2] at hp
    simp at hp
  · rw [if_neg hp] at hcor
    have p1 : plainB (loS ls 4) = true := by simpa using (not_or.1 hp).1
    have p2 : plainB (hiS hs 4) = true := by simpa using (not_or.1 hp).2
    have o1 := (plain_ok p1 l4).2
    have o2 := (plain_ok p2 h4).2
    refine ⟨((posB (loS ls 4), posB (hiS hs 4)), none), hcor, ⟨fun _ => ?_, fun h => absurd rfl h, fun _ => rfl⟩⟩
    have all : ∀ j k, j < 2 → k < 2 → v (idx (loS ls 4)) ≤ X j k ∧ X j k ≤ v (idx (hiS hs 4)) := fun j k hj hk => by
      obtain ⟨_, d, u⟩ := hf (2 * j + k) (by omega)
      rw [show (2 * j + k) / 2 = j by omega, show (2 * j + k) % 2 = k by omega] at d u
      have c4 : 2 * j + k = 0 ∨ 2 * j + k = 1 ∨ 2 * j + k = 2 ∨ 2 * j + k = 3 := by omega
      have m1 : idx (loS ls 4) ≤ idx (ls (2 * j + k)) := by rw [eL]; exact mins (by rcases c4 with e | e | e | e <;> rw [e] <;> simp)
      have m2 : idx (hs (2 * j + k)) ≤ idx (hiS hs 4) := by rw [eH]; exact maxs (by rcases c4 with e | e | e | e <;> rw [e] <;> simp)
      have k1 := K_mono m1
      have k2 := K_mono m2
      rw [(K_ok _).2 o1] at k1
      rw [(K_ok _).2 o2] at k2
      exact ⟨low_of' d o1 k1, high_of' u o2 k2⟩
    have hle : idx (loS ls 4) ≤ idx (hiS hs 4) := by
      obtain ⟨g1, g2⟩ := all 0 0 (by omega) (by omega)
      exact v_le_iff.1 (Rat.le_trans g1 g2)
    refine ⟨⟨posB_lt l4, posB_lt h4, posB_plain p1, posB_plain p2, by simp only [posB_idx]; exact hle, posB_pos _, posB_pos _⟩, ?_, ?_, ?_⟩
    · intro j k hj hk
      simp only [iL, iH, posB_idx]
      exact all j k hj hk
    · obtain ⟨_, d, _⟩ := hf nl hnl
      refine ⟨nl / 2, nl % 2, by omega, by omega, ?_⟩
      simp only [posB_idx]
      have h1 : K (idx (ls nl)) = idx (loS ls 4) := by rw [← enl]; exact (K_ok _).2 o1
      have d : DnK (X (nl / 2) (nl % 2)) (K (idx (ls nl))) := d
      rw [h1] at d
      exact d.val o1
    · obtain ⟨_, _, d⟩ := hf nh hnh
      refine ⟨nh / 2, nh % 2, by omega, by omega, ?_⟩
      simp only [posB_idx]
      have h1 : K (idx (hs nh)) = idx (hiS hs 4) := by rw [← enh]; exact (K_ok _).2 o2
      have d : UpK (X (nh / 2) (nh % 2)) (K (idx (hs nh))) := d
      rw [h1] at d
      exact UpK.val d o2
section
variable {E : Nat → Option Value} {q : Nat → Addr} {a b : Nat × Nat}
def mulX (a b : Nat × Nat) (j k : Nat) : Rat := iE a j * iE b k
def divX (a b : Nat × Nat) (j k : Nat) : Rat := iE a j / iE b k
/-- The ends of a difference. -/
def subX (a b : Nat × Nat) (j _k : Nat) : Rat := if j = 0 then iL a - iH b else iH a - iL b
theorem imul_q (hq : Sent E q) (g : Gd a) (g' : Gd b) : ∃ R : AnsQ, DCall Tryz.prog E 43 [ivD a, ivD b] (.data (.tup [ivD R.1, errQ R.2])) ∧ Res3 (mulX a b) R := by
  obtain ⟨R, h1, h2⟩ := corners_q hq (F := 88) rfl timesS (x0 := a.1) (x1 := a.2) (y0 := b.1) (y1 := b.2) (mulX a b) fun j k hj hk => by
    obtain ⟨l, h, c⟩ := mul_cor E (gd_two g j) (gd_two g' k)
    rw [twoE, twoE] at c
    exact ⟨l, h, c⟩
  exact ⟨R, imul_k E h1, h2⟩
/-- Does an interval hold 0? -/
def has0 (b : Nat × Nat) : Bool := decide (idx b.1 ≤ 0) && decide (0 ≤ idx b.2)
theorem idiv_q (hq : Sent E q) (g : Gd a) (g' : Gd b) : ∃ R : AnsQ, DCall Tryz.prog E 44 [ivD a, ivD b] (.data (.tup [ivD R.1, errQ R.2])) ∧
    (has0 b = true → R.2 ≠ none ∧ R.1 = (0, 0)) ∧ (has0 b = false → Res3 (divX a b) R) := by
  have n1 := (gd_ok1 g').fin.num
  have n2 := (gd_ok2 g').fin.num
  have hh := iholds_c E n1 n2 num0.1
  have h0 : idx 0 = 0 := num0.2
  rw [h0] at hh
  cases hb : has0 b
  · rw [show (decide (idx b.1 ≤ 0) && decide (0 ≤ idx b.2)) = false from hb] at hh
    have hne : idx b.1 ≠ 0 ∧ idx b.2 ≠ 0 := by
      have := g'.le
      unfold has0 at hb
      rw [Bool.and_eq_false_iff, decide_eq_false_iff_not, decide_eq_false_iff_not] at hb
      omega
    obtain ⟨R, h1, h2⟩ := corners_q hq (F := 90) rfl overS (x0 := a.1) (x1 := a.2) (y0 := b.1) (y1 := b.2) (divX a b) fun j k hj hk => by
      obtain ⟨l, h, c⟩ := div_cor E (gd_two g j) (gd_two g' k) (by unfold two; split <;> first | exact hne.1 | exact hne.2)
      rw [twoE, twoE] at c
      exact ⟨l, h, c⟩
    exact ⟨R, idiv_k E hh h1, fun h => (by cases h), fun _ => h2⟩
  · rw [show (decide (idx b.1 ≤ 0) && decide (0 ≤ idx b.2)) = true from hb] at hh
    exact ⟨((0, 0), some (overS, eD q 3)), idiv_z hq hh, fun _ => ⟨by simp, rfl⟩, fun h => (by cases h)⟩
theorem okB_ng {b : Nat} (h : OkB b) : OkB (fneg b) := by
  obtain ⟨h1, h2, h3, _⟩ := fneg_spec h.1
  exact ⟨h3, by rw [h1]; exact ok_neg h.2⟩
theorem neg_v {b : Nat} (h : OkB b) : v (idx (fneg b)) = -v (idx b) := by rw [(fneg_spec h.1).1, v_neg]
theorem isub_q (hq : Sent E q) (g : Gd a) (g' : Gd b) : ∃ R : AnsQ, DCall Tryz.prog E 42 [ivD a, ivD b] (.data (.tup [ivD R.1, errQ R.2])) ∧ Res3 (subX a b) R := by
  obtain ⟨l, _, l1, _, ll, _, ld, _⟩ := add_c E (gd_ok1 g) (okB_ng (gd_ok2 g'))
  obtain ⟨_, h, _, h2, _, lh, _, hu⟩ := add_c E (gd_ok2 g) (okB_ng (gd_ok1 g'))
  rw [neg_v (gd_ok2 g')] at ld
  rw [neg_v (gd_ok1 g')] at hu
  have el : v (idx a.1) + -v (idx b.2) = iL a - iH b := by unfold iL iH; grind
  have eh : v (idx a.2) + -v (idx b.1) = iH a - iL b := by unfold iL iH; grind
  rw [el] at ld
  rw [eh] at hu
  have he := ends_c hq minusS ll lh
  unfold endsP at he
  have dle := ld.1
  have ule := hu.2
  have ga := g.iLH
  have gb := g'.iLH
  by_cases hp : plainB l = false ∨ plainB h = false
  · rw [if_pos hp] at he
    refine ⟨((0, 0), some (minusS, eD q 2)), isub_k E l1 h2 he, ⟨fun h => (by cases h), fun _ => rfl, fun hX => ?_⟩⟩
    exfalso
    have x1 : Pl (iL a - iH b) := hX 0 0 (by omega) (by omega)
    have x2 : Pl (iH a - iL b) := hX 1 0 (by omega) (by omega)
    have mu1 : MU (iL a - iH b) := (mu_v _).sub (mu_v _)
    have mu2 : MU (iH a - iL b) := (mu_v _).sub (mu_v _)
    have o1 : ok (idx l) := (K_ok _).1.1 (DnK.okOf (dnk_of ld mu1.class.1) x1)
    have o2 : ok (idx h) := (K_ok _).1.1 (UpK.okOf (upk_of hu mu2.class.2) x2)
    rw [ok_plain o1, ok_plain o2] at hp
    simp at hp
  · rw [if_neg hp] at he
    have p1 : plainB l = true := by simpa using (not_or.1 hp).1
    have p2 : plainB h = true := by simpa using (not_or.1 hp).2
    refine ⟨((posB l, posB h), none), isub_k E l1 h2 he, ⟨fun _ => ?_, fun h => absurd rfl h, fun _ => rfl⟩⟩
    refine ⟨⟨posB_lt ll, posB_lt lh, posB_plain p1, posB_plain p2, by simp only [posB_idx]; exact v_le_iff.1 (by grind), posB_pos _, posB_pos _⟩, ?_, ?_, ?_⟩
    · intro j k hj hk
      simp only [iL, iH, posB_idx, subX]
      unfold iL iH at *
      split
      · exact ⟨by grind, by grind⟩
      · exact ⟨by grind, by grind⟩
    · exact ⟨0, 0, by omega, by omega, by simp only [posB_idx]; exact ld⟩
    · exact ⟨1, 0, by omega, by omega, by simp only [posB_idx]; exact hu⟩
/-- What three operations do, as functions. -/
structure Ops3 (E : Nat → Option Value) (M V S : Nat × Nat → Nat × Nat → AnsQ) : Prop where
  m : ∀ a b, Gd a → Gd b → DCall Tryz.prog E 43 [ivD a, ivD b] (.data (.tup [ivD (M a b).1, errQ (M a b).2])) ∧ Res3 (mulX a b) (M a b)
  v : ∀ a b, Gd a → Gd b → DCall Tryz.prog E 44 [ivD a, ivD b] (.data (.tup [ivD (V a b).1, errQ (V a b).2])) ∧ (has0 b = true → (V a b).2 ≠ none ∧ (V a b).1 = (0, 0)) ∧ (has0 b = false → Res3 (divX a b) (V a b))
  s : ∀ a b, Gd a → Gd b → DCall Tryz.prog E 42 [ivD a, ivD b] (.data (.tup [ivD (S a b).1, errQ (S a b).2])) ∧ Res3 (subX a b) (S a b)
theorem choose2 {R : Nat × Nat → Nat × Nat → AnsQ → Prop} (h : ∀ a b, Gd a → Gd b → ∃ r, R a b r) : ∃ f : Nat × Nat → Nat × Nat → AnsQ, ∀ a b, Gd a → Gd b → R a b (f a b) := by
  have h' : ∀ p : (Nat × Nat) × (Nat × Nat), ∃ r : AnsQ, Gd p.1 → Gd p.2 → R p.1 p.2 r := fun p => by
    by_cases g : Gd p.1 ∧ Gd p.2
    · obtain ⟨r, hr⟩ := h p.1 p.2 g.1 g.2
      exact ⟨r, fun _ _ => hr⟩
    · exact ⟨((0, 0), none), fun h1 h2 => absurd ⟨h1, h2⟩ g⟩
  obtain ⟨f, hf⟩ := Classical.axiomOfChoice h'
  exact ⟨fun a b => f (a, b), fun a b g g' => hf (a, b) g g'⟩
theorem ops3 (hq : Sent E q) : ∃ M V S, Ops3 E M V S := by
  obtain ⟨M, hM⟩ := choose2 (fun a b g g' => imul_q (a := a) (b := b) hq g g')
  obtain ⟨V, hV⟩ := choose2 (fun a b g g' => idiv_q (a := a) (b := b) hq g g')
  obtain ⟨S, hS⟩ := choose2 (fun a b g g' => isub_q (a := a) (b := b) hq g g')
  exact ⟨M, V, S, hM, hV, hS⟩
end
end Go.Enc
end
