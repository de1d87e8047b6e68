/-
  Exact answers as the document says: a step of kind 4 answers true.
-/
import Derived.Test.YtjlibljfpkmpfaaGreatDoorEa
set_option linter.unusedSimpArgs false
set_option maxRecDepth 100000
namespace Go.Enc
open Go.Proofs Go.Enc.Dg Go.Enc.Nu Go.Enc.Fl

theorem plain_iff {b : Nat} (hl : b < 18446744073709551616) : plainB b = true ↔ ok (idx b) := ⟨fun h => (plain_ok h hl).2, ok_plain⟩
/-- Floats that lie in the classes of the numbers rounded down and up are the document's interval. -/
theorem around_of {lo hi : Nm} {l h : Nat} (ll : l < 18446744073709551616) (lh : h < 18446744073709551616) (d : DnK (val lo) (K (idx l))) (u : UpK (val hi) (K (idx h))) :
    aroundB lo hi = if plainB l = true ∧ plainB h = true then ((posB l, posB h), 0) else ((0, 0), 3) := by
  have p1 := round_dn_idx ll d
  have p2 := round_up_idx lh u
  unfold aroundB
  by_cases h1 : ok (idx l)
  · have p1' : roundB false lo = (posB l, true) := by rw [p1, if_pos h1]; rfl
    by_cases h2 : ok (idx h)
    · have p2' : roundB true hi = (posB h, true) := by rw [p2, if_pos h2]; rfl
      rw [p1', p2', if_pos ⟨rfl, rfl⟩, if_pos ⟨(plain_iff ll).2 h1, (plain_iff lh).2 h2⟩]
    · have p2' : roundB true hi = (0, false) := by rw [p2, if_neg h2]
      rw [p1', p2', if_neg (fun g => by simp at g), if_neg (fun g => h2 ((plain_iff lh).1 g.2))]
  · have p1' : roundB false lo = (0, false) := by rw [p1, if_neg h1]
    rw [p1', if_neg (fun g => by simp at g), if_neg (fun g => h1 ((plain_iff ll).1 g.1))]
theorem posB_of {b : Nat} (h : idx b ≠ 0) : posB b = b := by
  unfold posB
  rw [if_neg (fun e => h (by rw [e]; decide))]
theorem v1_le : v 1 ≤ 1 := by
  rw [← v_one_pw]
  exact v_le (by decide)
theorem exact_int (E : Nat → Option Value) {n : Int} (h : -9223372036854775808 ≤ n ∧ n ≤ 9223372036854775807) :
    ∃ lo hi, DCall Tryz.prog E 103 [.v (.int .i64 n), intD (-1)] (.data (flD lo)) ∧ DCall Tryz.prog E 103 [.v (.int .i64 n), intD 1] (.data (flD hi)) ∧ exactW n = ((lo, hi), 0) := by
  by_cases h0 : n = 0
  · subst h0
    have hx : FloatKind.f64.nearest 0 = 0 := by decide +kernel
    have hm : floatToIntVal .f64 0 .i64 = some 0 := by decide +kernel
    have hf : Fl.Fin 0 := by decide
    have hi : idx 0 ≠ 4890909195324358656 := by decide
    have hv : val (nwhole 0) = 0 := val_whole 0
    have k0 : K (idx 0) = 0 := by rw [show idx 0 = 0 by decide]; rfl
    refine ⟨0, 0, fromInt_k E hx hf hi hm (fun g => by omega) (fun g => by omega) (fun _ => rfl), fromInt_k E hx hf hi hm (fun g => by omega) (fun g => by omega) (fun _ => rfl), ?_⟩
    unfold exactW
    rw [around_of (l := 0) (h := 0) (by decide) (by decide) (by rw [hv, k0]; exact .inl ⟨rfl, rfl⟩) (by rw [hv, k0]; exact .inl ⟨by grind, rfl⟩)]
    rfl
  · obtain ⟨lo, hi, h1, h2, l1, l2, d, u⟩ := fromInt_c E h
    have k1 := dn_ok ⟨by omega, by omega⟩ d
    have k2 := up_ok ⟨by omega, by omega⟩ u
    have v1 := v1_le
    have z := v_zero
    have zn := v_neg 1
    have lt1 : ∀ {m : Int}, (m : Rat) < 1 → m ≤ 0 := fun {m} g => by
      have : (m : Rat) < ((1 : Int) : Rat) := g
      have := Rat.intCast_lt_intCast.1 this
      omega
    have gt1 : ∀ {m : Int}, -1 < (m : Rat) → 0 ≤ m := fun {m} g => by
      have : ((-1 : Int) : Rat) < (m : Rat) := g
      have := Rat.intCast_lt_intCast.1 this
      omega
    have i1 : idx lo ≠ 0 := fun e => by
      rw [e] at d
      have d1 := d.1
      have d2 := d.2
      rw [z] at d1
      have a := lt1 (m := n) (by rw [show (0 : Int) + 1 = 1 by rfl] at d2; grind)
      have b : (0 : Int) ≤ n := by
        have : ((0 : Int) : Rat) ≤ (n : Rat) := d1
        exact Rat.intCast_le_intCast.1 this
      omega
    have i2 : idx hi ≠ 0 := fun e => by
      rw [e] at u
      have u1 := u.1
      have u2 := u.2
      rw [z] at u2
      have a := gt1 (m := n) (by rw [show (0 : Int) - 1 = -1 by rfl] at u1; grind)
      have b : n ≤ (0 : Int) := by
        have : (n : Rat) ≤ ((0 : Int) : Rat) := u2
        exact Rat.intCast_le_intCast.1 this
      omega
    have hd : DnK (val (nwhole n)) (K (idx lo)) := by
      rw [val_whole]
      refine dnk_of d ?_
      rcases Int.lt_trichotomy n 0 with g | g | g
      · right; right
        have : (n : Rat) < ((0 : Int) : Rat) := Rat.intCast_lt_intCast.2 g
        exact this
      · exact absurd g h0
      · right; left
        have : ((1 : Int) : Rat) ≤ (n : Rat) := Rat.intCast_le_intCast.2 (by omega)
        exact Rat.le_trans v1 this
    have hu : UpK (val (nwhole n)) (K (idx hi)) := by
      rw [val_whole]
      refine upk_of u ?_
      rcases Int.lt_trichotomy n 0 with g | g | g
      · right; right
        rw [zn]
        have : (n : Rat) ≤ ((-1 : Int) : Rat) := Rat.intCast_le_intCast.2 (by omega)
        have : (n : Rat) ≤ -1 := this
        grind
      · exact absurd g h0
      · right; left
        have : ((0 : Int) : Rat) < (n : Rat) := Rat.intCast_lt_intCast.2 g
        exact this
    refine ⟨lo, hi, h1, h2, ?_⟩
    unfold exactW
    rw [around_of l1 l2 hd hu, if_pos ⟨ok_plain k1, ok_plain k2⟩, posB_of i1, posB_of i2]
theorem exact_float {E : Nat → Option Value} {q : Nat → Addr} (hq : Sent E q) {b : Nat} (hb : b < 18446744073709551616) :
    ∃ r e s, DCall Tryz.prog E 30 [flD b, flD b] (.data (.tup [ivD r, e])) ∧ DCall Tryz.prog E 32 [e] (.data (.tup [intD (exactF b).2, strD s])) ∧ r = (exactF b).1 := by
  have hm := imake_c hq hb hb
  unfold makeP at hm
  have hp := plainB_eq hb
  unfold exactF
  rw [hp]
  cases h : plainB b
  · rw [if_pos (.inl h)] at hm
    rw [if_neg (by decide)]
    exact ⟨_, _, _, hm, code_sent hq (i := 0) (by decide), rfl⟩
  · rw [if_neg (by rw [h]; simp), if_neg (by omega)] at hm
    rw [if_pos rfl]
    have hv := nplain_val hb h
    have ho := (plain_ok h hb).2
    have hk := (K_ok (idx b)).2 ho
    rw [around_of hb hb (by rw [hv, hk]; exact dnk_self ho) (by rw [hv, hk]; exact upk_self ho), if_pos ⟨h, h⟩]
    exact ⟨_, _, _, hm, code_nil E, rfl⟩
/-- Exact: both answer alike. -/
theorem exact_same {E : Nat → Option Value} {q : Nat → Addr} (hq : Sent E q) (k : Int) {x : Int} (hx : -9223372036854775808 ≤ x ∧ x ≤ 9223372036854775807) :
    ∃ r n, DCall Tryz.prog E 21 [intD k, .v (.int .i64 x)] (.data (.tup [boxD r, intD n])) ∧ DCall Tryz.prog E 22 [intD k, .v (.int .i64 x)] (.data (.tup [boxD r, intD n])) := by
  have hr := i32_range x
  obtain ⟨lo, hi, f1, f2, f3⟩ := exact_int E hx
  obtain ⟨lo', hi', g1, g2, g3⟩ := exact_int E (n := IntKind.i32.wrap x) ⟨by omega, by omega⟩
  have hw : IntKind.u64.wrap x = ((x % 18446744073709551616).toNat : Int) := by rw [IntKind.wrap_u64]; omega
  have hb : (x % 18446744073709551616).toNat < 18446744073709551616 := by omega
  obtain ⟨r, e, s, m1, m2, m3⟩ := exact_float hq hb
  subst m3
  by_cases hk : k < 0 ∨ 5 < k
  · exact ⟨_, _, pexactO_k E hk, rexact_o E hk⟩
  · have : k = 0 ∨ k = 1 ∨ k = 2 ∨ k = 3 ∨ k = 4 ∨ k = 5 := by omega
    rcases this with rfl | rfl | rfl | rfl | rfl | rfl
    · refine ⟨_, _, pexact0_k E (w64 hx) (exactI_c E hx f1 f2) (code_nil E), ?_⟩
      have := rexact_w E (k := 0) (.inl rfl) hx
      rwa [f3] at this
    · refine ⟨_, _, pexact1_k E (exact32_c E ⟨by omega, by omega⟩ g1 g2) (code_nil E), ?_⟩
      have := rexact_s E (k := 1) (x := x) (.inl rfl)
      rwa [g3] at this
    · refine ⟨_, _, pexact2_k E (exact64_c E f1 f2) (code_nil E), ?_⟩
      have := rexact_w E (k := 2) (.inr rfl) hx
      rwa [f3] at this
    · exact ⟨_, _, pexact3_k E hw (exactF_c E m1) m2, rexact_f E (.inl rfl) hw hb⟩
    · refine ⟨_, _, pexact4_k E (exactS_c E ⟨by omega, by omega⟩ g1 g2) (code_nil E), ?_⟩
      have := rexact_s E (k := 4) (x := x) (.inr rfl)
      rwa [g3] at this
    · exact ⟨_, _, pexact5_k E hw (exactR_c E m1) m2, rexact_f E (.inr rfl) hw hb⟩
theorem plays_exact {E : Nat → Option Value} {q : Nat → Addr} (hq : Sent E q) {o : OpD} (hw : o.Wf) (hk : o.kind = 4) : DCall Tryz.prog E 12 [opD o] (.data (bD true)) := by
  obtain ⟨r, n, h1, h2⟩ := exact_same hq o.a hw.b
  have wb : IntKind.i64.wrap o.b = o.b := w64 hw.b
  refine dcall_of Tryz.func12 rfl (by kernel_rfl) Tryz.ntmps12 (by kernel_rfl) (by simp) (rs := [.tmp 2]) rfl ?_
  rintro ⟨P, E, σ0, w0, base, n, kb, df⟩ rfl rfl rfl rfl
  have e0 := tB (beqT (show n = n from rfl))
  simp -implicitDefEqProofs only [go_sem, OpD.cells, iD, uD, hk, Int.reduceBEq, wb]
  refine Call.intro h1 ?_
  simp -implicitDefEqProofs only [go_sem, wb]
  refine Call.intro h2 ?_
  simp -implicitDefEqProofs only [go_sem]
  refine Call.intro (same_c _ _) ?_
  simp -implicitDefEqProofs only [go_sem, e0, beq_self_eq_true, finK]
end Go.Enc
