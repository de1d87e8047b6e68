/-
  A heavy diagonal: the elimination, when nothing fails. No program.
-/
import Derived.Test.YtjlibljfpkmpfaaDoorHd
set_option linter.unusedSimpArgs false
namespace Go.Enc
open Go.Enc.Fl

section
variable (M V S : Nat × Nat → Nat × Nat → AnsQ) (B : Nat → Nat → Nat × Nat) (n k : Nat)
/-- The rows, one column more done. -/
def nxt : Nat → Nat → Nat × Nat := fun i j => if k < i ∧ i < n ∧ isZ (B i k) = false then (if j = k then (0, 0) else if k < j ∧ j ≤ n then (S (B i j) (M (V (B i k) (B k k)).1 (B k j)).1).1 else B i j) else B i j
/-- Nothing fails in doing it. -/
def OkS : Prop := ∀ i, k < i → i < n → isZ (B i k) = false → (V (B i k) (B k k)).2 = none ∧ ∀ j, k < j → j ≤ n → (M (V (B i k) (B k k)).1 (B k j)).2 = none ∧ (S (B i j) (M (V (B i k) (B k k)).1 (B k j)).1).2 = none
end
section
variable {M V S : Nat × Nat → Nat × Nat → AnsQ} {A B : Nat → Nat → Nat × Nat} {n k : Nat}
theorem colS_val {i : Nat} {F : AnsQ} (hF : F.2 = none) (h : ∀ j, k < j → j ≤ n → (M F.1 (B k j)).2 = none ∧ (S (B i j) (M F.1 (B k j)).1).2 = none) : ∀ m, m ≤ n - k →
    (colS M S B k i F m).2 = none ∧ ∀ j, (colS M S B k i F m).1 j = if k < j ∧ j < k + 1 + m then (S (B i j) (M F.1 (B k j)).1).1 else B i j
  | 0, _ => ⟨hF, fun j => by rw [if_neg (by omega)]; rfl⟩
  | m + 1, hm => by
    obtain ⟨h1, h2⟩ := colS_val hF h m (by omega)
    obtain ⟨h3, h4⟩ := h (k + 1 + m) (by omega) (by omega)
    have h5 : (colS M S B k i F m).1 (k + 1 + m) = B i (k + 1 + m) := by rw [h2, if_neg (by omega)]
    simp only [colS]
    rw [if_neg (by rw [h1]; simp)]
    refine ⟨?_, fun j => ?_⟩
    · simp only [h1, h5, h3, h4, ors]
    · simp only [upd, h5]
      by_cases e : j = k + 1 + m
      · subst e
        rw [if_pos rfl, if_pos (by omega)]
      · rw [if_neg e, h2]
        have : (k < j ∧ j < k + 1 + m) ↔ (k < j ∧ j < k + 1 + (m + 1)) := by omega
        simp only [this]
theorem rowS_val (h : OkS M V S B n k) : ∀ m, m ≤ n - 1 - k →
    (rowS M V S B n k m).2 = none ∧ ∀ i j, j ≤ n → (rowS M V S B n k m).1 i j = if i < k + 1 + m then nxt M V S B n k i j else B i j
  | 0, _ => ⟨rfl, fun i j hj => by
    split
    · unfold nxt; rw [if_neg (by omega)]; rfl
    · rfl⟩
  | m + 1, hm => by
    obtain ⟨h1, h2⟩ := rowS_val h m (by omega)
    have hk : ∀ j, j ≤ n → (rowS M V S B n k m).1 k j = B k j := fun j hj => by
      rw [h2 k j hj, if_pos (by omega)]
      unfold nxt; rw [if_neg (by omega)]
    have hi : ∀ j, j ≤ n → (rowS M V S B n k m).1 (k + 1 + m) j = B (k + 1 + m) j := fun j hj => by rw [h2 _ j hj, if_neg (by omega)]
    have hlt : ∀ i, i ≠ k + 1 + m → ((i < k + 1 + m) ↔ (i < k + 1 + (m + 1))) := fun i h => by omega
    simp only [rowS]
    rw [if_neg (by rw [h1]; simp)]
    rw [hi k (by omega), hk k (by omega)]
    split
    · rename_i hz
      refine ⟨h1, fun i j hj => ?_⟩
      rw [h2 i j hj]
      by_cases e : i = k + 1 + m
      · subst e
        rw [if_neg (by omega), if_pos (by omega)]
        unfold nxt
        rw [if_neg (by rw [hz]; simp)]
      · simp only [hlt i e]
    · rename_i hz
      have hz' : isZ (B (k + 1 + m) k) = false := by simpa using hz
      obtain ⟨hV, hO⟩ := h (k + 1 + m) (by omega) (by omega) hz'
      obtain ⟨c1, c2⟩ := colS_val (M := M) (S := S) (B := (rowS M V S B n k m).1) (n := n) (k := k) (i := k + 1 + m) (F := V (B (k + 1 + m) k) (B k k)) hV (fun j h1 h2 => by rw [hk j h2, hi j h2]; exact hO j h1 h2) (n - k) (Nat.le_refl _)
      rw [if_neg (by rw [c1]; simp)]
      refine ⟨rfl, fun i j hj => ?_⟩
      by_cases e : i = k + 1 + m
      · subst e
        rw [if_pos (by omega)]
        simp only [upd_same]
        unfold nxt
        rw [if_pos ⟨by omega, by omega, hz'⟩]
        simp only [upd]
        by_cases e2 : j = k
        · rw [if_pos e2, if_pos e2]
        · rw [if_neg e2, if_neg e2, c2]
          by_cases e3 : k < j ∧ j ≤ n
          · rw [if_pos (by omega), if_pos e3, hk j hj, hi j hj]
          · rw [if_neg (by omega), if_neg e3, hi j hj]
      · simp only [upd_ne _ _ e]
        rw [h2 i j hj]
        simp only [hlt i e]
/-- The rows are told up to what is looked at. -/
theorem elim_next (he : elimS M V S A n k = some B) (hp : (pvS B n k (n - k)).2 = (k : Int)) (h : OkS M V S B n k) (hk : k < n) :
    ∃ B', elimS M V S A n (k + 1) = some B' ∧ ∀ i j, i < n → j ≤ n → B' i j = nxt M V S B n k i j := by
  obtain ⟨h1, h2⟩ := rowS_val h (n - 1 - k) (Nat.le_refl _)
  have hs : swp B k k = B := by
    funext x
    unfold swp
    split
    · rename_i e; rw [e]
    · rfl
  refine ⟨(rowS M V S B n k (n - 1 - k)).1, ?_, fun i j hi hj => by rw [h2 i j hj, if_pos (by omega)]⟩
  simp only [elimS, he, hp, Int.toNat_natCast, hs, h1]
  rw [if_neg (by omega)]
/-- A quotient rounded, beside a float. -/
theorem near_ge {x : Rat} {r : Nat} {i : Int} (h : Near x r) (h1 : -(inf : Int) ≤ i) (h2 : i ≤ inf) (hx : v i ≤ x) : i ≤ idx r := by
  obtain ⟨k, hk, e⟩ := h.ex
  have := hk.ge hx
  rw [e]
  unfold clamp
  omega
theorem near_le {x : Rat} {r : Nat} {i : Int} (h : Near x r) (h1 : -(inf : Int) ≤ i) (h2 : i ≤ inf) (hx : x ≤ v i) : idx r ≤ i := by
  obtain ⟨k, hk, e⟩ := h.ex
  have := hk.le hx
  rw [e]
  unfold clamp
  omega
theorem mostF_v {f : Nat → Nat × Nat} {k m : Nat} (h : ∀ j, j < m → Gd (f (k + j))) {T : Rat} (h0 : 0 ≤ T) (hB : ∀ j, j < m → -T ≤ iL (f (k + j)) ∧ iH (f (k + j)) ≤ T) : ∀ j, j ≤ m → v (idx (mostF f k j)) ≤ T
  | 0, _ => by show v (idx 0) ≤ T; rw [num0.2, v_zero]; exact h0
  | j + 1, hj => by
    obtain ⟨_, _, _, e⟩ := mostF_step h (j := j) (by omega)
    have h1 := mostF_v h h0 hB j (by omega)
    have h2 := hB j (by omega)
    rw [e]
    have h3 : v (-idx (f (k + j)).1) ≤ T := by
      rw [v_neg]
      have := h2.1
      unfold iL at this
      grind
    have h4 : v (idx (f (k + j)).2) ≤ T := h2.2
    rcases (show max (max (idx (mostF f k j)) (-idx (f (k + j)).1)) (idx (f (k + j)).2) = idx (mostF f k j) ∨ max (max (idx (mostF f k j)) (-idx (f (k + j)).1)) (idx (f (k + j)).2) = -idx (f (k + j)).1 ∨ max (max (idx (mostF f k j)) (-idx (f (k + j)).1)) (idx (f (k + j)).2) = idx (f (k + j)).2 by omega) with q | q | q <;> rw [q] <;> assumption
theorem least_v {X : Nat × Nat} (g : Gd X) : (∀ d, 0 < d → LoA d X → d ≤ v (idx (leastB X))) ∧ (∀ m, 0 ≤ m → -m ≤ iL X → iH X ≤ m → v (idx (leastB X)) ≤ m) ∧ 0 ≤ idx (leastB X) := by
  obtain ⟨h1, h2, h3⟩ := leastB_spec g
  have a1 : v ((X.1 % 2 ^ 63 : Nat) : Int) = iL X ∨ v ((X.1 % 2 ^ 63 : Nat) : Int) = -iL X := by
    unfold iL
    rw [idx_sgn]
    split
    · right; rw [v_neg, Rat.neg_neg]
    · left; rfl
  have a2 : v ((X.2 % 2 ^ 63 : Nat) : Int) = iH X ∨ v ((X.2 % 2 ^ 63 : Nat) : Int) = -iH X := by
    unfold iH
    rw [idx_sgn]
    split
    · right; rw [v_neg, Rat.neg_neg]
    · left; rfl
  have p1 : 0 ≤ v ((X.1 % 2 ^ 63 : Nat) : Int) := by have := v_le (i := 0) (j := ((X.1 % 2 ^ 63 : Nat) : Int)) (by omega); rw [v_zero] at this; exact this
  have p2 : 0 ≤ v ((X.2 % 2 ^ 63 : Nat) : Int) := by have := v_le (i := 0) (j := ((X.2 % 2 ^ 63 : Nat) : Int)) (by omega); rw [v_zero] at this; exact this
  have hle := g.iLH
  refine ⟨fun d hd h => ?_, fun m hm l1 l2 => ?_, ?_⟩
  · rw [h3 (h.has0 hd)]
    rcases (show min (X.1 % 2 ^ 63) (X.2 % 2 ^ 63) = X.1 % 2 ^ 63 ∨ min (X.1 % 2 ^ 63) (X.2 % 2 ^ 63) = X.2 % 2 ^ 63 by omega) with q | q <;> rw [q] <;> rcases h with h | h <;> grind
  · cases hb : has0 X with
    | true => rw [h2 hb, num0.2, v_zero]; exact hm
    | false =>
      rw [h3 hb]
      rcases (show min (X.1 % 2 ^ 63) (X.2 % 2 ^ 63) = X.1 % 2 ^ 63 ∨ min (X.1 % 2 ^ 63) (X.2 % 2 ^ 63) = X.2 % 2 ^ 63 by omega) with q | q <;> rw [q] <;> grind
  · cases hb : has0 X with
    | true => rw [h2 hb, num0.2]; exact Int.le_refl _
    | false => rw [h3 hb]; omega
/-- What the search needs: a row's number stands out, the others' do not. -/
theorem pvS_k (hG : ∀ i j, i < n → j ≤ n → Gd (B i j)) (hk : k < n) {d : Nat → Rat} (hd : ∀ i, k ≤ i → i < n → 0 < d i ∧ LoA (d i) (B i i)) (h1 : ∀ j, k ≤ j → j < n → -(2 * d k) ≤ iL (B k j) ∧ iH (B k j) ≤ 2 * d k)
    (h2 : ∀ i, k < i → i < n → -(d i) ≤ 2 * iL (B i k) ∧ 2 * iH (B i k) ≤ d i) : (pvS B n k (n - k)).2 = (k : Int) := by
  obtain ⟨ih, hih, hpos⟩ := v_pow (z := -1) (by omega) (by omega)
  have hhalf : v ih = 1 / 2 := by rw [hih]; decide +kernel
  have hinf : ih ≤ inf := by
    have e1 : v (pw 1022) = (2 : Rat) ^ (-1 : Int) := by rw [v_pw 1022 (by omega)]; rfl
    have e2 : ih = pw 1022 := v_inj (by rw [hih, e1])
    rw [e2]
    unfold pw inf
    omega
  have val : ∀ i, k ≤ i → i < n → ∃ z, valO B n k i = some z ∧ Num z ∧ (i = k → ih ≤ idx z) ∧ (k < i → idx z ≤ ih) := fun i hi hin => by
    have gi : ∀ j, j < n - k → Gd (B i (k + j)) := fun j hj => hG _ _ hin (by omega)
    have hls := leastB_spec (hG i k hin (by omega))
    obtain ⟨l1, l2, l3⟩ := least_v (hG i k hin (by omega))
    have hmf := mostF_spec gi (n - k) (Nat.le_refl _)
    obtain ⟨d0, dL⟩ := hd i hi hin
    have hge := (mostF_ge gi (n - k) (Nat.le_refl _)).2 (i - k) (by omega)
    rw [show k + (i - k) = i by omega] at hge
    have hmd : d i ≤ v (idx (mostF (B i) k (n - k))) := by
      have g1 := v_le hge.1
      have g2 := v_le hge.2
      rw [v_neg] at g1
      unfold LoA iL iH at dL
      have := (hG i i hin (by omega)).iLH
      unfold iL iH at this
      rcases dL with q | q <;> grind
    have hm0 : 0 < v (idx (mostF (B i) k (n - k))) := by grind
    have hne : idx (mostF (B i) k (n - k)) ≠ 0 := fun e => by rw [e, v_zero] at hm0; grind
    obtain ⟨z, e, hn⟩ := div_spec hls.1 hmf.1 hne
    refine ⟨z, e, hn.num, fun hik => ?_, fun hik => ?_⟩
    · subst hik
      refine near_ge hn (by omega) hinf ?_
      rw [hhalf]
      have q1 := l1 (d i) d0 dL
      have q2 := mostF_v gi (T := 2 * d i) (by grind) (fun j hj => h1 (i + j) (by omega) (by omega)) (n - i) (Nat.le_refl _)
      have hi := Rat.inv_pos.2 hm0
      rw [Rat.div_def]
      have := Rat.mul_le_mul_of_nonneg_right (show v (idx (mostF (B i) i (n - i))) * (1 / 2) ≤ v (idx (leastB (B i i))) by grind) (Rat.le_of_lt hi)
      have q3 := Rat.mul_inv_cancel _ (show v (idx (mostF (B i) i (n - i))) ≠ 0 by grind)
      grind
    · refine near_le hn (by omega) hinf ?_
      rw [hhalf]
      have q0 := h2 i hik hin
      have q1 := l2 (d i * (1 / 2)) (by grind) (by grind) (by grind)
      have hi := Rat.inv_pos.2 hm0
      rw [Rat.div_def]
      have := Rat.mul_le_mul_of_nonneg_right (show v (idx (leastB (B i k))) ≤ v (idx (mostF (B i) k (n - k))) * (1 / 2) by grind) (Rat.le_of_lt hi)
      have q3 := Rat.mul_inv_cancel _ (show v (idx (mostF (B i) k (n - k))) ≠ 0 by grind)
      grind
  have main : ∀ m, 1 ≤ m → m ≤ n - k → (pvS B n k m).2 = (k : Int) ∧ ih ≤ idx (pvS B n k m).1 ∧ Num (pvS B n k m).1 := by
    intro m
    induction m with
    | zero => intro h; omega
    | succ m ih' =>
      intro _ hm
      obtain ⟨z, e, nz, z1, z2⟩ := val (k + m) (by omega) (by omega)
      by_cases h0 : m = 0
      · subst h0
        have z1 := z1 rfl
        have : abv (valO B n k (k + 0)) (pvS B n k 0).1 = true := by
          rw [e]
          simp only [abv]
          have ho : FloatKind.f64.format.order z (pvS B n k 0).1 = _ := order_num nz num0.1
          have : (pvS B n k 0).1 = 0 := rfl
          rw [ho, this, num0.2, if_neg (by omega), if_neg (by omega)]
          rfl
        have ep : pvS B n k (0 + 1) = (z, ((k + 0 : Nat) : Int)) := by
          show (if abv (valO B n k (k + 0)) (pvS B n k 0).1 = true then _ else _) = _
          rw [if_pos this, e]
          rfl
        rw [ep]
        exact ⟨rfl, z1, nz⟩
      · obtain ⟨i1, i2, i3⟩ := ih' (by omega) (by omega)
        have z2 := z2 (by omega)
        have : abv (valO B n k (k + m)) (pvS B n k m).1 = false := by
          rw [e]
          simp only [abv]
          have ho : FloatKind.f64.format.order z (pvS B n k m).1 = _ := order_num nz i3
          rw [ho]
          by_cases q : idx z < idx (pvS B n k m).1
          · rw [if_pos q]; rfl
          · rw [if_neg q, if_pos (by omega)]; rfl
        have ep : pvS B n k (m + 1) = pvS B n k m := by
          show (if abv (valO B n k (k + m)) (pvS B n k m).1 = true then _ else _) = _
          rw [if_neg (by rw [this]; simp)]
        rw [ep]
        exact ⟨i1, i2, i3⟩
  exact (main (n - k) (by omega) (Nat.le_refl _)).1
end
end Go.Enc
