/-
  One step of the law Finds answers true; so does the law.
-/
import Derived.Test.YtjlibljfpkmpfaaDoorFq
set_option linter.unusedSimpArgs false
set_option maxRecDepth 100000
namespace Go.Enc
open Go.Proofs Go.Enc.Dg Go.Enc.Nu Go.Enc.Fl Go.RowKit

theorem hor4 {x0 x1 x2 x3 : Nat} {a b c : Int} (h0 : v (idx x0) = ((-a * b * c : Int) : Rat)) (h1 : v (idx x1) = ((a * b + a * c + b * c : Int) : Rat)) (h2 : v (idx x2) = ((-a - b - c : Int) : Rat)) (h3 : v (idx x3) = ((1 : Int) : Rat)) {r : Int} (hr : r ∈ [a, b, c]) :
    hor [x0, x1, x2, x3] (r : Rat) ([x0, x1, x2, x3].length - 1) = 0 := by
  have e : hor [x0, x1, x2, x3] (r : Rat) ([x0, x1, x2, x3].length - 1) = ((v (idx x3) * r + v (idx x2)) * r + v (idx x1)) * r + v (idx x0) := rfl
  rw [e, h0, h1, h2, h3]
  simp only [Rat.intCast_mul, Rat.intCast_add, Rat.intCast_sub, Rat.intCast_neg, Rat.intCast_one]
  simp only [List.mem_cons, List.not_mem_nil, or_false] at hr
  rcases hr with rfl | rfl | rfl <;> grind
section
variable {E : Nat → Option Value} {q : Nat → Addr}
set_option maxHeartbeats 1000000 in
theorem finds_c (hq : Sent E q) (o : OpD) : DCall Tryd.prog E 8 [opD o] (.data (bD true)) := by
  obtain ⟨a, ha⟩ : ∃ a, fiA o = a := ⟨_, rfl⟩
  obtain ⟨b, hb⟩ : ∃ b, fiB o = b := ⟨_, rfl⟩
  obtain ⟨c, hc⟩ : ∃ c, fiC o = c := ⟨_, rfl⟩
  have ra : a.natAbs ≤ 8 := by rw [← ha]; unfold fiA sm4; omega
  have rb : b.natAbs ≤ 8 := by rw [← hb]; unfold fiB sm4; omega
  have rc : c.natAbs ≤ 8 := by rw [← hc]; unfold fiC sm4; omega
  have r1 := mul_abs ra rb
  have r2 := mul_abs ra rc
  have r3 := mul_abs rb rc
  have r5 := mul_abs (mul_abs (x := -a) (m := 8) (by omega) rb) rc
  have rlo : -17 ≤ fiLo o ∧ fiLo o ≤ 14 := by unfold fiLo sm5; omega
  have rhi : fiLo o ≤ fiHi o ∧ fiHi o ≤ 46 := by unfold fiLo fiHi sm5; omega
  have rd : 1 ≤ fiD o ∧ fiD o ≤ 8 := by unfold fiD; omega
  obtain ⟨x0, w0, c0⟩ := made_wb (E := E) (n := -a * b * c) (by omega)
  obtain ⟨x1, w1, c1⟩ := made_wb (E := E) (n := a * b + a * c + b * c) (by omega)
  obtain ⟨x2, w2, c2⟩ := made_wb (E := E) (n := -a - b - c) (by omega)
  obtain ⟨x3, w3, c3⟩ := made_wb (E := E) (n := 1) (by omega)
  obtain ⟨y1, u1, d1⟩ := made_wb (E := E) (n := fiLo o) (by omega)
  obtain ⟨y2, u2, d2⟩ := made_wb (E := E) (n := fiHi o) (by omega)
  have hl : ∀ x ∈ [x0.1, x1.1, x2.1, x3.1], x < 18446744073709551616 := fun x hx => by
    simp only [List.mem_cons, List.not_mem_nil, or_false] at hx
    rcases hx with rfl | rfl | rfl | rfl
    · exact w0.g.l1
    · exact w1.g.l1
    · exact w2.g.l1
    · exact w3.g.l1
  have hp : ∀ x ∈ [x0.1, x1.1, x2.1, x3.1], plainB x = true := fun x hx => by
    simp only [List.mem_cons, List.not_mem_nil, or_false] at hx
    rcases hx with rfl | rfl | rfl | rfl
    · exact w0.g.p1
    · exact w1.g.p1
    · exact w2.g.p1
    · exact w3.g.p1
  have hroot : ∀ r ∈ [a, b, c], hor [x0.1, x1.1, x2.1, x3.1] (r : Rat) ([x0.1, x1.1, x2.1, x3.1].length - 1) = 0 := fun r hr => hor4 w0.e1 w1.e1 w2.e1 w3.e1 hr
  have hW : ∀ (i : Nat) (n : Int), (csL a b c)[i]? = some n → ∃ y : Nat × Nat, [x0.1, x1.1, x2.1, x3.1][i]? = some y.1 ∧ DCall Tryd.prog E 13 [intD n] (.data (.tup [boxD y, bD true])) := fun i n h => by
    unfold csL at h
    match i, h with
    | 0, h => cases h; exact ⟨x0, rfl, c0⟩
    | 1, h => cases h; exact ⟨x1, rfl, c1⟩
    | 2, h => cases h; exact ⟨x2, rfl, c2⟩
    | 3, h => cases h; exact ⟨x3, rfl, c3⟩
    | _ + 4, h => simp at h
  have hlen4 : [x0.1, x1.1, x2.1, x3.1].length = 4 := rfl
  generalize [x0.1, x1.1, x2.1, x3.1] = l at hl hp hroot hW hlen4
  have hr : rightB l = 0 := by
    unfold rightB
    rw [if_neg (by omega), if_pos hp]
  have gw : Gw (y1.1, y2.2) := ⟨u1.g.l1, u2.g.l2, u1.g.p1, u2.g.p2, v_le_iff.1 (by
    show v (idx y1.1) ≤ v (idx y2.2)
    rw [u1.e1, u2.e2]; exact Rat.intCast_le_intCast.2 rhi.1)⟩
  have gX : Gd (posB y1.1, posB y2.2) := ⟨posB_lt gw.l1, posB_lt gw.l2, posB_plain gw.p1, posB_plain gw.p2, by simp only [posB_idx]; exact gw.le, posB_pos _, posB_pos _⟩
  obtain ⟨M, A, O⟩ := two_ops hq
  have hD := dr_ok hq O hl (by omega) hr
  have h3 := proots_good hq hl (by omega) gX (made_gw hq gw) hD hr (d := (fiD o).toNat) (by omega) 0
  rw [show (((fiD o).toNat : Nat) : Int) = fiD o by omega] at h3
  have hin : ∀ r ∈ [a, b, c], fiLo o ≤ r → r ≤ fiHi o → ∃ Y, Y ∈ pcs (drO M A l) (fiD o).toNat (posB y1.1, posB y2.2) ∧ In Y (r : Rat) := fun r hm h1 h2 => by
    refine pcs_in (fun X g h => dr_root O hl hr g h (hroot r hm)) _ _ gX ⟨?_, ?_⟩
    · show v (idx (posB y1.1)) ≤ _
      rw [posB_idx, u1.e1]; exact Rat.intCast_le_intCast.2 h1
    · show _ ≤ v (idx (posB y2.2))
      rw [posB_idx, u2.e2]; exact Rat.intCast_le_intCast.2 h2
  have hgd := pcs_gd (dr := drO M A l) (fiD o).toNat (posB y1.1, posB y2.2) gX
  have hLl := pcs_len2 (drO M A l) (fiD o).toNat (posB y1.1, posB y2.2)
  have h256 : 2 ^ (fiD o).toNat ≤ 256 := Nat.pow_le_pow_right (n := 2) (by decide) (show (fiD o).toNat ≤ 8 by omega)
  generalize pcs (drO M A l) (fiD o).toNat (posB y1.1, posB y2.2) = L at h3 hin hgd hLl
  have hrange : ∀ r ∈ [a, b, c], -2305843009213693952 ≤ r ∧ r ≤ 2305843009213693952 := fun r hm => by
    simp only [List.mem_cons, List.not_mem_nil, or_false] at hm
    rcases hm with rfl | rfl | rfl <;> omega
  have hlaw : ∀ r ∈ [a, b, c], fl L r (decide (r ≥ fiLo o) && decide (r ≤ fiHi o)) L.length = false := fun r hm => by
    unfold fl
    by_cases h : fiLo o ≤ r ∧ r ≤ fiHi o
    · obtain ⟨Y, hY, hi⟩ := hin r hm h.1 h.2
      have hb := hB_in (hgd Y hY) hi
      rw [List.take_length]
      have : (L.all fun Y => !hB Y r) = false := by
        rw [List.all_eq_false]
        exact ⟨Y, hY, by rw [hb]; decide⟩
      rw [this, Bool.and_false]
    · have : (decide (r ≥ fiLo o) && decide (r ≤ fiHi o)) = false := by
        rw [Bool.and_eq_false_iff]
        by_cases h1 : fiLo o ≤ r
        · exact .inr (decide_eq_false fun h2 => h ⟨h1, h2⟩)
        · exact .inl (decide_eq_false h1)
      rw [this, Bool.false_and]
  have f1 := @finds_1 E o
  rw [ha, hb, hc] at f1
  refine dcall_w Tryd.func8 rfl (by kernel_rfl) Tryd.ntmps8 (by simp) (rs := [.tmp 2]) rfl (fun C hP hE hn hk => ?_)
  refine dwp_cut 5 (by rw [hn]; kernel_rfl) (f1 hP hE hn hk rfl) ?_
  refine dwp_cut 2 (by rw [hn]; kernel_rfl) (finds_2 o hlen4 hW hP hE hn hk rfl) ?_
  refine dwp_cut 4 (by rw [hn]; kernel_rfl) (finds_3 o d1 d2 h3 hP hE hn hk rfl) ?_
  exact dwp_of (by rw [hn]; kernel_rfl) (finds_4 o (by omega) (fun Y hY r hm => lholds_b E (hgd Y hY) (hrange r hm)) hlaw hP hE hn hk rfl)
end
theorem all_finds {E : Nat → Option Value} {ops : List OpD} (hl : ops.length ≤ maxLen) (hp : ∀ o ∈ ops, DCall Tryd.prog E 8 [opD o] (.data (bD true))) :
    DCall Tryd.prog E 4 [scD ops] (.data (bD true)) := by
  refine dcall_of Tryd.func4 rfl (by kernel_rfl) Tryd.ntmps4 (by kernel_rfl) (by simp) (rs := [.tmp 2]) rfl ?_
  rintro ⟨P, E, σ0, w0, base, n, kb, df⟩ rfl rfl rfl rfl
  have hmax : maxLen = 9223372036854775807 := by decide
  simp -implicitDefEqProofs only [go_sem]
  rw [stop_eq]
  refine dwp_loop (α := {i : Nat // i ≤ ops.length}) (fun i => St.of [(0, .d (scD ops)), (2, .d (bD false)), (3, .d (intD i.1))] []) (fun i => ops.length - i.1)
    ⟨0, Nat.zero_le _⟩ (weak_of ?_ ?_ rfl) (by kernel_rfl) (fun i => ?_)
  · simp -implicitDefEqProofs only [go_sem]
  · simp -implicitDefEqProofs only [go_sem]
  · obtain ⟨i, hi0⟩ := i
    by_cases hA : i < ops.length
    · obtain ⟨o, ho⟩ : ∃ o, ops[i]? = some o := ⟨ops[i], by simp [hA]⟩
      have hm := List.mem_of_getElem? ho
      have eA : decide ((i : Int) < (ops.length : Int)) = true := tD (by omega)
      by_cases hB : i < 1152921504606846976
      · have eB : decide ((i : Int) < 1152921504606846976) = true := tD (by omega)
        have w1 : IntKind.i64.wrap ((i : Int) + 1) = ((i + 1 : Nat) : Int) := addN1 (by omega)
        have hin : i * 9 < ops.length * 9 := by omega
        have hin2 : i * 9 + 9 ≤ ops.length * 9 := by omega
        have fin : ∃ x' : {i : Nat // i ≤ ops.length}, x'.1 = i + 1 := ⟨⟨i + 1, hA⟩, rfl⟩
        have hpl := hp o hm
        simp -implicitDefEqProofs only [go_sem, eA, eB, flat_len, div9, hin, hin2, flat_at ho, OpD.cells, iD, uD]
        refine Call.intro hpl ?_
        simp -implicitDefEqProofs only [go_sem, w1, Bool.not_true]
        obtain ⟨x', hx'⟩ := fin
        refine ⟨x', weak_of ?_ ?_ rfl, by simp only [hx']; omega⟩
        · simp -implicitDefEqProofs only [go_sem, hx']
        · simp -implicitDefEqProofs only [go_sem]
      · have eB : decide ((i : Int) < 1152921504606846976) = false := fD (by omega)
        simp -implicitDefEqProofs only [go_sem, eA, eB, flat_len, div9, finK]
    · have eA : decide ((i : Int) < (ops.length : Int)) = false := fD (by omega)
      simp -implicitDefEqProofs only [go_sem, eA, flat_len, div9, finK]
end Go.Enc
