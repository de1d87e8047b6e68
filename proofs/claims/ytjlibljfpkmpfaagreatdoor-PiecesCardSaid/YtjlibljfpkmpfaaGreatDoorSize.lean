/-
  Natural numbers by their digits: how many bits.
-/
import Derived.Test.YtjlibljfpkmpfaaGreatDoorNat
import Derived.Test.YtjlibljfpkmpfaaGreatDoorNum
set_option linter.unusedSimpArgs false
namespace Go.Enc
open Go.Proofs Go.Enc.Dg Go.Enc.Nu

theorem bits_t1 {a low P x : Nat} (htop : P ≤ a) (hsp : a = low + P * x) (hlow : low < P) : x ≠ 0 := fun e => by
  rw [e] at hsp
  have : a = low := hsp
  exact absurd hlow (Nat.not_lt.2 (this ▸ htop))
theorem bits_t2 {x k : Nat} (hx0 : x ≠ 0) (h1 : x < 2 ^ k) : k ≠ 0 := fun e => by
  rw [e] at h1
  have : x < 1 := h1
  exact hx0 (Nat.lt_one_iff.1 this)
theorem bits_digs {a : Nat} {la : List Nat} {x k : Nat} (hla : dg a = la) (h0 : a ≠ 0) (hx : la[la.length - 1]? = some x) (h1 : x < 2 ^ k) (h2 : k = 0 ∨ 2 ^ (k - 1) ≤ x) : nbits a = 24 * (la.length - 1) + k := by
  have htop : B ^ (la.length - 1) ≤ a := by have := dg_ge h0; rwa [hla] at this
  have hsp := vl_split hx
  have hda := dig_dg a
  have hva := vl_dg a
  rw [hla] at hda hva
  have hpos := lt_of_get hx
  rw [hva, List.drop_of_length_le (by omega), vl_nil, Nat.mul_zero, Nat.add_zero] at hsp
  have hlow := vl_lt (hda.take (i := la.length - 1))
  rw [List.length_take, Nat.min_eq_left (by omega)] at hlow
  generalize vl (la.take (la.length - 1)) = low at *
  generalize hn : la.length - 1 = n at *
  have hP : B ^ n = 2 ^ (24 * n) := B_pow n
  generalize B ^ n = P at *
  clear hda hla hva hpos hn hx
  have hx0 : x ≠ 0 := bits_t1 htop hsp hlow
  have hk1 : k ≠ 0 := bits_t2 hx0 h1
  obtain ⟨m, rfl⟩ : ∃ m, k = m + 1 := ⟨k - 1, (Nat.succ_pred_eq_of_ne_zero hk1).symm⟩
  have hlo : 2 ^ m ≤ x := h2.resolve_left hk1
  rw [← Nat.add_assoc]
  refine bits_of ?_ ?_
  · rw [Nat.pow_add, ← hP, hsp]
    exact Nat.le_trans (Nat.mul_le_mul_left P hlo) (Nat.le_add_left _ _)
  · rw [Nat.add_assoc, Nat.pow_add, ← hP, hsp]
    have h3 := Nat.mul_le_mul_left P (show x + 1 ≤ 2 ^ (m + 1) from h1)
    rw [Nat.mul_add, Nat.mul_one] at h3
    refine Nat.lt_of_lt_of_le ?_ h3
    rw [Nat.add_comm]
    exact Nat.add_lt_add_left hlow _
set_option maxRecDepth 100000 in
theorem size_c (E : Nat → Option Value) {a : Nat} (ha : Sm (dg a)) : DCall Tryz.prog E 129 [natD a] (.data (intD (nbits a))) := by
  refine dcall_of Tryz.func129 rfl (by kernel_rfl) Tryz.ntmps129 (by kernel_rfl) (by simp) (rs := [.tmp 2]) rfl ?_
  rintro ⟨P, E, σ0, w0, base, n, kb, df⟩ rfl rfl rfl rfl
  obtain ⟨la, hla⟩ : ∃ la, dg a = la := ⟨_, rfl⟩
  have hda := dig_dg a
  have hva := vl_dg a
  unfold Sm at ha
  rw [hla] at ha hda hva
  by_cases h0 : a = 0
  · have hl0 : la = [] := by rw [← hla]; exact dg_nil.2 h0
    subst hl0
    simp -implicitDefEqProofs only [go_sem, hla, beq_self_eq_true, finK]
    rw [h0, bits_zero]; rfl
  have hpos : 0 < la.length := by
    rcases Nat.eq_zero_or_pos la.length with h | h
    · exfalso; rw [← hla] at h; exact h0 (dg_len0.1 h)
    · exact h
  obtain ⟨x, hx⟩ := get_of_lt (l := la) (i := la.length - 1) (by omega)
  have hx2 : x < 16777216 := hda.get hx
  have hxl := lt_of_get hx
  have e0 : ((la.length : Int) == 0) = false := by rw [beq_eq_false_iff_ne]; omega
  have w1 : IntKind.i64.wrap ((la.length : Int) - 1) = ((la.length - 1 : Nat) : Int) := subN1 (by omega)
  have w2 : IntKind.i64.wrap (24 * ((la.length - 1 : Nat) : Int)) = ((24 * (la.length - 1) : Nat) : Int) := mul24 (by omega)
  simp -implicitDefEqProofs only [go_sem, hla, e0, w1, w2, hxl, dD_get hx, dD]
  rw [stop_eq]
  refine dwp_loop (α := {k : Nat // k = 0 ∨ 2 ^ (k - 1) ≤ x}) (fun k => St.of [(3, .d (intD ((24 * (la.length - 1) + k.1 : Nat)))), (4, .d (intD ((x / 2 ^ k.1 : Nat))))] []) (fun k => x / 2 ^ k.1)
      ⟨0, .inl rfl⟩ (weak_of ?_ ?_ rfl) (by kernel_rfl) (fun k => ?_)
  · simp -implicitDefEqProofs only [go_sem, Nat.pow_zero]
  · simp -implicitDefEqProofs only [go_sem]
  · obtain ⟨k, hk⟩ := k
    have hk24 : k ≤ 24 := by
      rcases hk with h | h
      · omega
      · rcases Nat.lt_or_ge 24 k with h2 | h2
        · have := Nat.pow_le_pow_right (show 0 < 2 by decide) (show 24 ≤ k - 1 by omega)
          omega
        · exact h2
    have hq : x / 2 ^ k ≤ x := Nat.div_le_self _ _
    have w3 : IntKind.i64.wrap (((x / 2 ^ k : Nat) : Int).tdiv 2) = ((x / 2 ^ (k + 1) : Nat) : Int) := by
      rw [div2 (Nat.lt_of_le_of_lt hq (by omega)), Nat.div_div_eq_div_mul, ← Nat.pow_succ]
    have w4 : IntKind.i64.wrap (((24 * (la.length - 1) + k : Nat) : Int) + 1) = ((24 * (la.length - 1) + (k + 1) : Nat) : Int) := addN1 (by omega)
    by_cases hz : x / 2 ^ k = 0
    · have e1 : decide (((x / 2 ^ k : Nat) : Int) > 0) = false := fD (by rw [hz]; decide)
      simp -implicitDefEqProofs only [go_sem, e1, finK]
      have hlt : x < 2 ^ k := by
        rcases (Nat.div_eq_zero_iff).1 hz with h | h
        · have : 0 < 2 ^ k := Nat.pow_pos (by decide)
          omega
        · exact h
      rw [bits_digs hla h0 hx hlt hk]
    · have hz1 : 1 ≤ x / 2 ^ k := Nat.pos_of_ne_zero hz
      have e1 : decide (((x / 2 ^ k : Nat) : Int) > 0) = true := tD (Int.natCast_pos.2 hz1)
      simp -implicitDefEqProofs only [go_sem, e1, w3, w4]
      refine ⟨⟨k + 1, .inr ?_⟩, weak_of ?_ ?_ rfl, ?_⟩
      · rw [Nat.add_sub_cancel]
        exact (Nat.le_div_iff_mul_le (Nat.pow_pos (by decide))).1 hz1 |> fun h => by rwa [Nat.one_mul] at h
      · simp -implicitDefEqProofs only [go_sem]
      · simp -implicitDefEqProofs only [go_sem]
      · simp only
        rw [Nat.pow_succ, ← Nat.div_div_eq_div_mul]
        exact Nat.div_lt_self hz1 (by decide)
end Go.Enc
