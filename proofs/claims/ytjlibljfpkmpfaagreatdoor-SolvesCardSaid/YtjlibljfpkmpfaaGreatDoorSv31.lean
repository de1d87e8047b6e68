/-
  Determinants of up to four rows; what was solved has none that is nought. No program.
-/
import Derived.Test.YtjlibljfpkmpfaaGreatDoorSv30
set_option linter.unusedSimpArgs false
namespace Go.Enc
open Go.Enc.Fl
def mnr (a : Nat → Nat → Rat) (j : Nat) : Nat → Nat → Rat := fun i k => a (i + 1) (if k < j then k else k + 1)
def detR : Nat → (Nat → Nat → Rat) → Rat
  | 0, _ => 1
  | n + 1, a => smR (fun j => if j % 2 = 1 then -(a 0 j * detR n (mnr a j)) else a 0 j * detR n (mnr a j)) (n + 1)
theorem det1 (a : Nat → Nat → Rat) : detR 1 a = a 0 0 := by
  simp [detR, smR]; grind
theorem det2 (a : Nat → Nat → Rat) : detR 2 a = a 0 0 * a 1 1 - a 0 1 * a 1 0 := by
  simp [detR, smR, mnr]; grind
theorem det3 (a : Nat → Nat → Rat) : detR 3 a = a 0 0 * (a 1 1 * a 2 2 - a 1 2 * a 2 1) - a 0 1 * (a 1 0 * a 2 2 - a 1 2 * a 2 0) + a 0 2 * (a 1 0 * a 2 1 - a 1 1 * a 2 0) := by
  show smR _ 3 = _
  simp only [smR, det2, mnr]; simp; grind
theorem det4 (a : Nat → Nat → Rat) : detR 4 a = a 0 0 * (a 1 1 * (a 2 2 * a 3 3 - a 2 3 * a 3 2) - a 1 2 * (a 2 1 * a 3 3 - a 2 3 * a 3 1) + a 1 3 * (a 2 1 * a 3 2 - a 2 2 * a 3 1))
   - a 0 1 * (a 1 0 * (a 2 2 * a 3 3 - a 2 3 * a 3 2) - a 1 2 * (a 2 0 * a 3 3 - a 2 3 * a 3 0) + a 1 3 * (a 2 0 * a 3 2 - a 2 2 * a 3 0))
   + a 0 2 * (a 1 0 * (a 2 1 * a 3 3 - a 2 3 * a 3 1) - a 1 1 * (a 2 0 * a 3 3 - a 2 3 * a 3 0) + a 1 3 * (a 2 0 * a 3 1 - a 2 1 * a 3 0))
   - a 0 3 * (a 1 0 * (a 2 1 * a 3 2 - a 2 2 * a 3 1) - a 1 1 * (a 2 0 * a 3 2 - a 2 2 * a 3 0) + a 1 2 * (a 2 0 * a 3 1 - a 2 1 * a 3 0)) := by
  show smR _ 4 = _
  simp only [smR, det3, mnr]; simp; grind
def repC (a : Nat → Nat → Rat) (b : Nat → Rat) (c : Nat) : Nat → Nat → Rat := fun i j => if j = c then b i else a i j
def addR (a : Nat → Nat → Rat) (c : Rat) (i k : Nat) : Nat → Nat → Rat := fun x j => if x = i then a i j - c * a k j else a x j
/-- Cramer. -/
theorem cramR {n : Nat} (h : n ≤ 4) (a : Nat → Nat → Rat) (b : Nat → Rat) {i : Nat} (hi : i < n) : smR (fun j => a i j * detR n (repC a b j)) n = detR n a * b i := by
  rcases (show n = 1 ∨ n = 2 ∨ n = 3 ∨ n = 4 by omega) with rfl | rfl | rfl | rfl
  · obtain rfl : i = 0 := by omega
    simp only [smR, det1, repC]; simp; grind
  · rcases (show i = 0 ∨ i = 1 by omega) with rfl | rfl <;> (simp only [smR, det2, repC]; simp; grind)
  · rcases (show i = 0 ∨ i = 1 ∨ i = 2 by omega) with rfl | rfl | rfl <;> (simp only [smR, det3, repC]; simp; grind)
  · rcases (show i = 0 ∨ i = 1 ∨ i = 2 ∨ i = 3 by omega) with rfl | rfl | rfl | rfl <;> (simp only [smR, det4, repC]; simp; grind)
theorem det_add {n : Nat} (h : n ≤ 4) (a : Nat → Nat → Rat) (c : Rat) {i k : Nat} (hi : i < n) (hk : k < n) (hik : i ≠ k) : detR n (addR a c i k) = detR n a := by
  rcases (show n = 1 ∨ n = 2 ∨ n = 3 ∨ n = 4 by omega) with rfl | rfl | rfl | rfl
  · omega
  · rcases (show i = 0 ∨ i = 1 by omega) with rfl | rfl <;> rcases (show k = 0 ∨ k = 1 by omega) with rfl | rfl <;> first | (exfalso; omega) | (simp only [det2, addR]; simp; grind)
  · rcases (show i = 0 ∨ i = 1 ∨ i = 2 by omega) with rfl | rfl | rfl <;> rcases (show k = 0 ∨ k = 1 ∨ k = 2 by omega) with rfl | rfl | rfl <;> first | (exfalso; omega) | (simp only [det3, addR]; simp; grind)
  · rcases (show i = 0 ∨ i = 1 ∨ i = 2 ∨ i = 3 by omega) with rfl | rfl | rfl | rfl <;> rcases (show k = 0 ∨ k = 1 ∨ k = 2 ∨ k = 3 by omega) with rfl | rfl | rfl | rfl <;> first | (exfalso; omega) | (simp only [det4, addR]; simp; grind)
theorem det_swp {n : Nat} (h : n ≤ 4) (a : Nat → Nat → Rat) {i k : Nat} (hi : i < n) (hk : k < n) : detR n (swp a i k) = detR n a ∨ detR n (swp a i k) = -detR n a := by
  by_cases hik : i = k
  · subst hik
    left
    have : swp a i i = a := by funext x; unfold swp; by_cases h : x = i <;> simp [h]
    rw [this]
  right
  rcases (show n = 1 ∨ n = 2 ∨ n = 3 ∨ n = 4 by omega) with rfl | rfl | rfl | rfl
  · omega
  · rcases (show i = 0 ∨ i = 1 by omega) with rfl | rfl <;> rcases (show k = 0 ∨ k = 1 by omega) with rfl | rfl <;> first | (exfalso; omega) | (simp only [det2, swp]; simp; grind)
  · rcases (show i = 0 ∨ i = 1 ∨ i = 2 by omega) with rfl | rfl | rfl <;> rcases (show k = 0 ∨ k = 1 ∨ k = 2 by omega) with rfl | rfl | rfl <;> first | (exfalso; omega) | (simp only [det3, swp]; simp; grind)
  · rcases (show i = 0 ∨ i = 1 ∨ i = 2 ∨ i = 3 by omega) with rfl | rfl | rfl | rfl <;> rcases (show k = 0 ∨ k = 1 ∨ k = 2 ∨ k = 3 by omega) with rfl | rfl | rfl | rfl <;> first | (exfalso; omega) | (simp only [det4, swp]; simp; grind)
theorem det_tri {n : Nat} (h : n ≤ 4) (a : Nat → Nat → Rat) (hz : ∀ i j, i < n → j < i → a i j = 0) (hd : ∀ i, i < n → a i i ≠ 0) : detR n a ≠ 0 := by
  have m := @Rat.mul_eq_zero
  rcases (show n = 0 ∨ n = 1 ∨ n = 2 ∨ n = 3 ∨ n = 4 by omega) with rfl | rfl | rfl | rfl | rfl
  · show (1 : Rat) ≠ 0; decide +kernel
  · rw [det1]; exact hd 0 (by omega)
  · have e : detR 2 a = a 0 0 * a 1 1 := by rw [det2, hz 1 0 (by omega) (by omega)]; grind
    rw [e]; intro h; rcases m.1 h with h | h
    · exact hd 0 (by omega) h
    · exact hd 1 (by omega) h
  · have e : detR 3 a = a 0 0 * a 1 1 * a 2 2 := by rw [det3, hz 1 0 (by omega) (by omega), hz 2 0 (by omega) (by omega), hz 2 1 (by omega) (by omega)]; grind
    rw [e]; intro h; rcases m.1 h with h | h
    · rcases m.1 h with h | h
      · exact hd 0 (by omega) h
      · exact hd 1 (by omega) h
    · exact hd 2 (by omega) h
  · have e : detR 4 a = a 0 0 * a 1 1 * a 2 2 * a 3 3 := by rw [det4, hz 1 0 (by omega) (by omega), hz 2 0 (by omega) (by omega), hz 2 1 (by omega) (by omega), hz 3 0 (by omega) (by omega), hz 3 1 (by omega) (by omega), hz 3 2 (by omega) (by omega)]; grind
    rw [e]; intro h; rcases m.1 h with h | h
    · rcases m.1 h with h | h
      · rcases m.1 h with h | h
        · exact hd 0 (by omega) h
        · exact hd 1 (by omega) h
      · exact hd 2 (by omega) h
    · exact hd 3 (by omega) h
theorem clR_det {n k : Nat} (h : n ≤ 4) (b : Nat → Nat → Rat) (hk : k < n) : ∀ m, m ≤ n - 1 - k → detR n (clR b k m) = detR n b
  | 0, _ => by
    have : clR b k 0 = b := by
      funext i j
      unfold clR
      rw [if_neg (by omega)]
    rw [this]
  | m + 1, hm => by
    have e : clR b k (m + 1) = addR (clR b k m) (b (k + 1 + m) k / b k k) (k + 1 + m) k := by
      funext i j
      simp only [clR, addR]
      by_cases h1 : i = k + 1 + m
      · subst h1
        simp only
        rw [if_pos ⟨by omega, by omega⟩, if_pos trivial, if_neg (by omega), if_neg (by omega)]
      · rw [if_neg h1]
        by_cases h2 : k < i ∧ i < k + 1 + m
        · rw [if_pos ⟨h2.1, by omega⟩, if_pos h2]
        · rw [if_neg (by omega), if_neg h2]
    rw [e, det_add h _ _ (by omega) hk (by omega), clR_det h b hk m (by omega)]
/-- What stands when k columns are done: of some matrix within. -/
structure ElQ (Q : (Nat → Nat → Rat) → Prop) (B : Nat → Nat → Nat × Nat) (b : Nat → Nat → Rat) (n k : Nat) : Prop where
  wi : ∀ i j, i < n → j ≤ n → Wi (b i j) (B i j)
  q : Q b
  zero : ∀ i j, i < n → j < k → j < i → b i j = 0
  pv : ∀ i, i < k → has0 (B i i) = false
section
variable {E : Nat → Option Value} {M V S : Nat × Nat → Nat × Nat → AnsQ} (O : Ops3 E M V S) {A : Nat → Nat → Nat × Nat} {a : Nat → Nat → Rat} {n : Nat}
include O
theorem elimS_q {Q : (Nat → Nat → Rat) → Prop} (qs : ∀ b k z, k < n → z < n → Q b → Q (swp b k z)) (qc : ∀ b k, k < n → Q b → Q (clR b k (n - 1 - k))) (hG : ∀ i j, i < n → j ≤ n → Gd (A i j)) (hw : ∀ i j, i < n → j ≤ n → Wi (a i j) (A i j)) (ha : Q a) : ∀ k, k ≤ n → ∀ B, elimS M V S A n k = some B → ∃ b, ElQ Q B b n k
  | 0, _, B, h => by
    simp only [elimS, Option.some.injEq] at h
    subst h
    exact ⟨a, hw, ha, fun i j _ h => by omega, fun i h => by omega⟩
  | k + 1, hk, B, h => by
    simp only [elimS] at h
    cases h0 : elimS M V S A n k with
    | none => rw [h0] at h; cases h
    | some B0 =>
      rw [h0] at h
      simp only at h
      obtain ⟨b, I⟩ := elimS_q qs qc hG hw ha k (by omega) B0 h0
      have g0 := elimS_gd O hG k (by omega) B0 h0
      split at h
      · cases h
      · rename_i hneg
        rcases pvS_at B0 n k (n - k) with hat | ⟨z, z1, z2, z3⟩
        · omega
        · have hzn : z < n := by omega
          rw [z3, Int.toNat_natCast] at h
          have gs := swp_gd g0 (k := k) (x := z) (by omega) hzn
          have hp : has0 (swp B0 k z k k) = false := by
            have := (pvS_has0 (k := k) g0 (by omega) (n - k) (by omega)).2.2 (by omega)
            rw [z3, Int.toNat_natCast] at this
            have e : swp B0 k z k = B0 z := by
              unfold swp
              by_cases h1 : k = z
              · rw [if_pos h1, h1]
              · rw [if_neg h1, if_pos rfl]
            rw [e]; exact this
          have sw : ∀ i, i < n → ∃ i', i' < n ∧ swp b k z i = b i' ∧ swp B0 k z i = B0 i' ∧ (i < k → i' = i) ∧ (k ≤ i → k ≤ i') := fun i hi => by
            unfold swp
            by_cases h1 : i = z
            · rw [if_pos h1, if_pos h1]; exact ⟨k, by omega, rfl, rfl, fun h => by omega, fun _ => Nat.le_refl _⟩
            · rw [if_neg h1, if_neg h1]
              by_cases h2 : i = k
              · rw [if_pos h2, if_pos h2]; exact ⟨z, by omega, rfl, rfl, fun h => by omega, fun _ => z1⟩
              · rw [if_neg h2, if_neg h2]; exact ⟨i, hi, rfl, rfl, fun _ => rfl, fun h => h⟩
          have sWi : ∀ i j, i < n → j ≤ n → Wi (swp b k z i j) (swp B0 k z i j) := fun i j hi hj => by
            obtain ⟨i', h1, h2, h3, _⟩ := sw i hi
            rw [h2, h3]; exact I.wi i' j h1 hj
          have sZ : ∀ i j, i < n → j < k → j < i → swp b k z i j = 0 := fun i j hi hj hji => by
            obtain ⟨i', h1, h2, _, h4, h5⟩ := sw i hi
            rw [h2]
            exact I.zero i' j h1 hj (by
              rcases Nat.lt_or_ge i k with g | g
              · rw [h4 g]; exact hji
              · have := h5 g; omega)
          cases hR : (rowS M V S (swp B0 k z) n k (n - 1 - k)).2 with
          | some _ => rw [hR] at h; cases h
          | none =>
            rw [hR] at h
            simp only [Option.some.injEq] at h
            subst h
            have hkk : swp b k z k k ≠ 0 := has0_ne hp (gs k k (by omega) (by omega)) (sWi k k (by omega) (by omega))
            refine ⟨clR (swp b k z) k (n - 1 - k), rowS_wi O gs (by omega) sWi hp sZ (n - 1 - k) (Nat.le_refl _) hR, qc _ _ (by omega) (qs _ _ _ (by omega) hzn I.q), fun i j hi hj hji => ?_, fun i hi => ?_⟩
            · unfold clR
              by_cases g : k < i ∧ i < k + 1 + (n - 1 - k)
              · rw [if_pos g]
                by_cases gj : j = k
                · subst gj
                  rw [Rat.div_def, Rat.mul_assoc, Rat.mul_comm (swp b j z j j)⁻¹, Rat.mul_inv_cancel _ hkk]
                  grind
                · rw [sZ i j hi (by omega) hji, sZ k j (by omega) (by omega) (by omega)]
                  grind
              · rw [if_neg g]
                exact sZ i j hi (by omega) hji
            · rw [rowS_keep (n - 1 - k) i (.inl (by omega))]
              rcases Nat.lt_or_ge i k with g | g
              · obtain ⟨i', h1, h2, h3, h4, _⟩ := sw i (by omega)
                rw [h3, h4 g]
                exact I.pv i g
              · obtain rfl : i = k := by omega
                exact hp
/-- NO DETERMINANT WITHIN IS NOUGHT. -/
theorem solS_det (h4 : n ≤ 4) (hG : ∀ i j, i < n → j ≤ n → Gd (A i j)) (hw : ∀ i j, i < n → j ≤ n → Wi (a i j) (A i j)) {out : Nat → Nat × Nat} (h : solS M V S A n = some out) : detR n a ≠ 0 := by
  unfold solS at h
  cases he : elimS M V S A n n with
  | none => rw [he] at h; cases h
  | some B =>
    obtain ⟨b, I⟩ := elimS_q O (Q := fun b => detR n b = detR n a ∨ detR n b = -detR n a) (fun b k z hk hz q => by
      rcases det_swp h4 b hk hz with e | e <;> rw [e] <;> rcases q with q | q <;> rw [q] <;> first | exact .inl rfl | exact .inr rfl | (left; grind)) (fun b k hk q => by rw [clR_det h4 b hk _ (Nat.le_refl _)]; exact q) hG hw (.inl rfl) n (Nat.le_refl _) B he
    have gB := elimS_gd O hG n (Nat.le_refl _) B he
    have ht := det_tri h4 b (fun i j hi hj => I.zero i j hi (by omega) hj) (fun i hi => has0_ne (I.pv i hi) (gB i i hi (by omega)) (I.wi i i hi (by omega)))
    rcases I.q with q | q
    · rw [← q]; exact ht
    · intro e
      rw [e] at q
      exact ht (by rw [q]; grind)
/-- CRAMER'S NUMBERS LIE WITHIN THE ANSWER. -/
theorem solS_cram (h4 : n ≤ 4) (hG : ∀ i j, i < n → j ≤ n → Gd (A i j)) (hw : ∀ i j, i < n → j ≤ n → Wi (a i j) (A i j)) {out : Nat → Nat × Nat} (h : solS M V S A n = some out) {j : Nat} (hj : j < n) :
    Wi (detR n (repC a (fun i => a i n) j) / detR n a) (out j) := by
  have hd := solS_det O h4 hG hw h
  refine (solS_wi O hG hw (x := fun j => detR n (repC a (fun i => a i n) j) / detR n a) (fun i hi => ?_) h).1 j hj
  have c := cramR h4 a (fun i => a i n) hi
  unfold SatR
  have e : smR (fun j => a i j * (detR n (repC a (fun i => a i n) j) / detR n a)) n = (detR n a)⁻¹ * smR (fun j => a i j * detR n (repC a (fun i => a i n) j)) n := by
    have : ∀ (f : Nat → Rat) (c : Rat) m, smR (fun j => c * f j) m = c * smR f m := fun f c m => by
      induction m with
      | zero => simp only [smR]; grind
      | succ m ih => simp only [smR]; rw [ih]; grind
    rw [← this]
    exact smR_congr fun j _ => by rw [Rat.div_def]; grind
  rw [e, c]
  have := Rat.mul_inv_cancel _ hd
  grind
end
end Go.Enc
