/-
  Every operation answers as the document says: a step of kind 2 answers true.
-/
import Derived.Test.YtjlibljfpkmpfaaGreatDoorRp
import Derived.Test.YtjlibljfpkmpfaaGreatDoorPo
import Derived.Test.YtjlibljfpkmpfaaGreatDoorEb
set_option linter.unusedSimpArgs false
set_option maxRecDepth 100000
namespace Go.Enc
open Go.Proofs Go.Enc.Dg Go.Enc.Nu Go.Enc.Fl

/-! The least and the greatest of some numbers, by class. -/
theorem lo_val (f : Nat → Nm) : ∀ n, (∀ i, i ≤ n → val (loAt f n) ≤ val (f i)) ∧ ∃ i, i ≤ n ∧ loAt f n = f i
  | 0 => ⟨fun i hi => by rw [show i = 0 by omega]; exact Rat.le_refl, 0, Nat.le_refl _, rfl⟩
  | n + 1 => by
    obtain ⟨h1, j, h2, h3⟩ := lo_val f n
    have hl := nless_iff (f (n + 1)) (loAt f n)
    have e : loAt f (n + 1) = if nless (f (n + 1)) (loAt f n) = true then f (n + 1) else loAt f n := rfl
    by_cases h : val (f (n + 1)) < val (loAt f n)
    · rw [decide_eq_true h] at hl
      rw [e, if_pos hl]
      refine ⟨fun i hi => ?_, n + 1, Nat.le_refl _, rfl⟩
      rcases Nat.lt_or_ge i (n + 1) with g | g
      · exact Rat.le_trans (Rat.le_of_lt h) (h1 i (by omega))
      · rw [show i = n + 1 by omega]; exact Rat.le_refl
    · rw [decide_eq_false h] at hl
      rw [e, if_neg (by rw [hl]; decide)]
      refine ⟨fun i hi => ?_, j, by omega, h3⟩
      rcases Nat.lt_or_ge i (n + 1) with g | g
      · exact h1 i (by omega)
      · rw [show i = n + 1 by omega]; exact Rat.not_lt.1 h
theorem hi_val (f : Nat → Nm) : ∀ n, (∀ i, i ≤ n → val (f i) ≤ val (hiAt f n)) ∧ ∃ i, i ≤ n ∧ hiAt f n = f i
  | 0 => ⟨fun i hi => by rw [show i = 0 by omega]; exact Rat.le_refl, 0, Nat.le_refl _, rfl⟩
  | n + 1 => by
    obtain ⟨h1, j, h2, h3⟩ := hi_val f n
    have hl := nless_iff (hiAt f n) (f (n + 1))
    have e : hiAt f (n + 1) = if nless (hiAt f n) (f (n + 1)) = true then f (n + 1) else hiAt f n := rfl
    by_cases h : val (hiAt f n) < val (f (n + 1))
    · rw [decide_eq_true h] at hl
      rw [e, if_pos hl]
      refine ⟨fun i hi => ?_, n + 1, Nat.le_refl _, rfl⟩
      rcases Nat.lt_or_ge i (n + 1) with g | g
      · exact Rat.le_trans (h1 i (by omega)) (Rat.le_of_lt h)
      · rw [show i = n + 1 by omega]; exact Rat.le_refl
    · rw [decide_eq_false h] at hl
      rw [e, if_neg (by rw [hl]; decide)]
      refine ⟨fun i hi => ?_, j, by omega, h3⟩
      rcases Nat.lt_or_ge i (n + 1) with g | g
      · exact h1 i (by omega)
      · rw [show i = n + 1 by omega]; exact Rat.not_lt.1 h
theorem lo_class {f : Nat → Nm} {k : Nat → Int} {n : Nat} {m : Int} (h : ∀ i, i ≤ n → DnK (val (f i)) (k i)) (h1 : ∀ i, i ≤ n → m ≤ k i) (h2 : ∃ i, i ≤ n ∧ m = k i) : DnK (val (loAt f n)) m := by
  obtain ⟨g1, j, g2, g3⟩ := lo_val f n
  obtain ⟨i, hi, e⟩ := h2
  have a := (h j g2).mono (h i hi) (by rw [← g3]; exact g1 i hi)
  have b := h1 j g2
  have : m = k j := by omega
  rw [g3, this]; exact h j g2
theorem hi_class {f : Nat → Nm} {k : Nat → Int} {n : Nat} {m : Int} (h : ∀ i, i ≤ n → UpK (val (f i)) (k i)) (h1 : ∀ i, i ≤ n → k i ≤ m) (h2 : ∃ i, i ≤ n ∧ m = k i) : UpK (val (hiAt f n)) m := by
  obtain ⟨g1, j, g2, g3⟩ := hi_val f n
  obtain ⟨i, hi, e⟩ := h2
  have a := (h i hi).mono (h j g2) (by rw [← g3]; exact g1 i hi)
  have b := h1 j g2
  have : m = k j := by omega
  rw [g3, this]; exact h j g2
theorem four4 {i : Nat} (h : i ≤ 3) : i = 0 ∨ i = 1 ∨ i = 2 ∨ i = 3 := by omega
theorem min4 {a b c d t : Int} (h : a ≤ t) : min (min (min (min t a) b) c) d = min (min (min a b) c) d := by rw [Int.min_eq_right h]
theorem max4 {a b c d t : Int} (h : t ≤ a) : max (max (max (max t a) b) c) d = max (max (max a b) c) d := by rw [Int.max_eq_right h]
theorem min4_le (a b c d : Int) : min (min (min a b) c) d ≤ a ∧ min (min (min a b) c) d ≤ b ∧ min (min (min a b) c) d ≤ c ∧ min (min (min a b) c) d ≤ d ∧
    (min (min (min a b) c) d = a ∨ min (min (min a b) c) d = b ∨ min (min (min a b) c) d = c ∨ min (min (min a b) c) d = d) := by omega
theorem max4_ge (a b c d : Int) : a ≤ max (max (max a b) c) d ∧ b ≤ max (max (max a b) c) d ∧ c ≤ max (max (max a b) c) d ∧ d ≤ max (max (max a b) c) d ∧
    (max (max (max a b) c) d = a ∨ max (max (max a b) c) d = b ∨ max (max (max a b) c) d = c ∨ max (max (max a b) c) d = d) := by omega
theorem corners_class {E : Nat → Option Value} {q : Nat → Addr} (hq : Sent E q) {F : FuncId} (hF : isP F = false) (op : ByteArray) {x0 x1 y0 y1 : Nat} {f : Nat → Nm}
    (hc : ∀ n, n < 4 → ∃ l h, Corner E F op (two x0 x1 (n / 2)) (two y0 y1 (n % 2)) l h ∧ DnK (val (f n)) (K (idx l)) ∧ UpK (val (f n)) (K (idx h))) :
    ∃ l h, DCall Tryz.prog E 87 [strD op, ivD (x0, x1), ivD (y0, y1), .v (.func (.func F) #[] #[])] (.data (endsP q op l h)) ∧ l < 18446744073709551616 ∧ h < 18446744073709551616 ∧
      DnK (val (loAt f 3)) (K (idx l)) ∧ UpK (val (hiAt f 3)) (K (idx h)) := by
  have hc' : ∀ n, ∃ p : Nat × Nat, n < 4 → Corner E F op (two x0 x1 (n / 2)) (two y0 y1 (n % 2)) p.1 p.2 ∧ DnK (val (f n)) (K (idx p.1)) ∧ UpK (val (f n)) (K (idx p.2)) := fun n => by
    by_cases hn : n < 4
    · obtain ⟨l, h, h1⟩ := hc n hn
      exact ⟨(l, h), fun _ => h1⟩
    · exact ⟨(0, 0), fun h => absurd h hn⟩
  have ⟨g, hg⟩ := Classical.axiomOfChoice hc'
  let ls : Nat → Nat := fun n => (g n).1
  let hs : Nat → Nat := fun n => (g n).2
  have hcs : ∀ j k, j < 2 → k < 2 → Corner E F op (two x0 x1 j) (two y0 y1 k) (ls (2 * j + k)) (hs (2 * j + k)) := fun j k hj hk => by
    have h := (hg (2 * j + k) (by omega)).1
    rw [show (2 * j + k) / 2 = j by omega, show (2 * j + k) % 2 = k by omega] at h
    exact h
  have hl : ∀ n, n < 4 → Num (ls n) ∧ ls n < 18446744073709551616 := fun n hn => ⟨(hg n hn).1.ln, (hg n hn).1.ll⟩
  have hh : ∀ n, n < 4 → Num (hs n) ∧ hs n < 18446744073709551616 := fun n hn => ⟨(hg n hn).1.hn, (hg n hn).1.hl⟩
  have hcor := corners_c hq hF op hcs
  have i0 : idx (loS ls 0) = (inf : Int) := by show idx 9218868437227405312 = _; decide
  have j0 : idx (hiS hs 0) = -(inf : Int) := by show idx 18442240474082181120 = _; decide
  have eL : idx (loS ls 4) = min (min (min (idx (ls 0)) (idx (ls 1))) (idx (ls 2))) (idx (ls 3)) := by
    rw [(loS_pick hl (n := 3) (by omega)).2, (loS_pick hl (n := 2) (by omega)).2, (loS_pick hl (n := 1) (by omega)).2, (loS_pick hl (n := 0) (by omega)).2, i0]
    exact min4 (idx_num (hl 0 (by omega)).1).2
  have eH : idx (hiS hs 4) = max (max (max (idx (hs 0)) (idx (hs 1))) (idx (hs 2))) (idx (hs 3)) := by
    rw [(hiS_pick hh (n := 3) (by omega)).2, (hiS_pick hh (n := 2) (by omega)).2, (hiS_pick hh (n := 1) (by omega)).2, (hiS_pick hh (n := 0) (by omega)).2, j0]
    exact max4 (idx_num (hh 0 (by omega)).1).1
  obtain ⟨m0, m1, m2, m3, m4⟩ := min4_le (idx (ls 0)) (idx (ls 1)) (idx (ls 2)) (idx (ls 3))
  obtain ⟨n0, n1, n2, n3, n4⟩ := max4_ge (idx (hs 0)) (idx (hs 1)) (idx (hs 2)) (idx (hs 3))
  rw [← eL] at m0 m1 m2 m3 m4
  rw [← eH] at n0 n1 n2 n3 n4
  refine ⟨loS ls 4, hiS hs 4, hcor, (loS_spec hl 4 (by omega)).2, (hiS_spec hh 4 (by omega)).2, ?_, ?_⟩
  · refine lo_class (k := fun i => K (idx (ls i))) (fun i hi => (hg i (by omega)).2.1) (fun i hi => ?_) ?_
    · rcases four4 hi with rfl | rfl | rfl | rfl
      · exact K_mono m0
      · exact K_mono m1
      · exact K_mono m2
      · exact K_mono m3
    · rcases m4 with e | e | e | e
      · exact ⟨0, by omega, congrArg K e⟩
      · exact ⟨1, by omega, congrArg K e⟩
      · exact ⟨2, by omega, congrArg K e⟩
      · exact ⟨3, by omega, congrArg K e⟩
  · refine hi_class (k := fun i => K (idx (hs i))) (fun i hi => (hg i (by omega)).2.2) (fun i hi => ?_) ?_
    · rcases four4 hi with rfl | rfl | rfl | rfl
      · exact K_mono n0
      · exact K_mono n1
      · exact K_mono n2
      · exact K_mono n3
    · rcases n4 with e | e | e | e
      · exact ⟨0, by omega, congrArg K e⟩
      · exact ⟨1, by omega, congrArg K e⟩
      · exact ⟨2, by omega, congrArg K e⟩
      · exact ⟨3, by omega, congrArg K e⟩

/-! What the ends give is what the document names. -/
theorem ends_named {E : Nat → Option Value} {q : Nat → Addr} (hq : Sent E q) (nm : ByteArray) {l h : Nat} (ll : l < 18446744073709551616) (lh : h < 18446744073709551616) {R : (Nat × Nat) × Int}
    (hR : R = if plainB l = true ∧ plainB h = true then ((posB l, posB h), 0) else ((0, 0), 3)) :
    ∃ r n s e, endsP q nm l h = .tup [ivD r, e] ∧ DCall Tryz.prog E 32 [e] (.data (.tup [intD n, strD s])) ∧ namedB R.1 R.2 nm = (r, n, s) := by
  unfold endsP
  by_cases g : plainB l = true ∧ plainB h = true
  · rw [if_pos g] at hR
    rw [if_neg (by rw [g.1, g.2]; simp), hR]
    exact ⟨_, _, _, _, rfl, code_nil E, rfl⟩
  · rw [if_neg g] at hR
    rw [if_pos (by cases hl : plainB l; exact .inl rfl; cases hh : plainB h; exact .inr rfl; exact absurd ⟨hl, hh⟩ g), hR]
    exact ⟨_, _, _, _, rfl, code_op hq (i := 2) (by decide) nm, rfl⟩
theorem okB_neg {b : Nat} (h : OkB b) : OkB (fneg b) ∧ v (idx (fneg b)) = -v (idx b) := by
  obtain ⟨h1, _, h3, _⟩ := fneg_spec h.1
  refine ⟨⟨h3, ?_⟩, ?_⟩
  · rw [h1]; exact ok_neg h.2
  · rw [h1, v_neg]
theorem bits_uniq {a b : Nat} (ha : a < 18446744073709551616) (hb : b < 18446744073709551616) (h : idx a = idx b) (h0 : idx a ≠ 0) : a = b := by
  unfold idx at *
  split at h <;> split at h <;> omega
theorem sub0 {a : Nat} (hl : a < 18446744073709551616) (hp : plainB a = true) (hq : posB a = a) : FloatKind.f64.format.sub 0 a = some (posB (fneg a)) := by
  show Ieee.double.sub 0 a = some (posB (fneg a))
  by_cases h0 : idx a = 0
  · have : a = 0 := by
      have h1 := idx_zero.1 h0
      have : a = 0 ∨ a = 9223372036854775808 := by omega
      rcases this with h | h
      · exact h
      · rw [h] at hq; exact absurd hq (by decide)
    subst this
    decide +kernel
  · have hf := plainB_num hp
    have hff := idx_fin.1 hf
    obtain ⟨r, hr, ⟨⟨i, hi, hc⟩, hlt, _⟩⟩ := sub_spec (show Fl.Fin 0 by decide) hf
    have e0 : v (idx 0) - v (idx a) = v (-idx a) := by rw [show idx 0 = 0 by decide, v_zero, v_neg]; grind
    rw [e0] at hi
    rw [hi.exact, clamp_in (by omega) (by omega)] at hc
    have hn := (fneg_spec hl).1
    rw [hr, posB_of (by rw [hn]; omega)]
    congr 1
    exact bits_uniq hlt (fneg_spec hl).2.2.1 (by rw [hc, hn]) (by omega)
theorem self_class {b : Nat} (hl : b < 18446744073709551616) (hp : plainB b = true) : DnK (v (idx b)) (K (idx b)) ∧ UpK (v (idx b)) (K (idx b)) := by
  have ho := (plain_ok hp hl).2
  rw [(K_ok (idx b)).2 ho]
  exact ⟨dnk_self ho, upk_self ho⟩
theorem mk2_gd {x : Nat × Nat} (h1 : x.1 < 18446744073709551616) (h2 : x.2 < 18446744073709551616) : Gd (mk2 x) := by
  obtain ⟨c1, c2⟩ := makeB_cases h1 h2
  have z : Gd (0, 0) := ⟨by decide, by decide, by decide, by decide, by decide, rfl, rfl⟩
  unfold mk2
  by_cases h : plainB x.1 = false ∨ plainB x.2 = false
  · rw [c1 h]; exact z
  · by_cases h' : idx x.2 < idx x.1
    · rw [(c2 h).1 h']; exact z
    · rw [(c2 h).2 h']
      have p1 : plainB x.1 = true := by cases hx : plainB x.1; exact absurd (.inl hx) h; rfl
      have p2 : plainB x.2 = true := by cases hx : plainB x.2; exact absurd (.inr hx) h; rfl
      exact ⟨posB_lt h1, posB_lt h2, posB_plain p1, posB_plain p2, by simp only [posB_idx]; omega, posB_pos _, posB_pos _⟩
theorem pmade_c {E : Nat → Option Value} {q : Nat → Addr} (hq : Sent E q) {x : Nat × Nat} (h1 : x.1 < 18446744073709551616) (h2 : x.2 < 18446744073709551616) : DCall Tryz.prog E 37 [boxD x] (.data (ivD (mk2 x))) := by
  have hm := imake_c hq h1 h2
  obtain ⟨c1, c2⟩ := makeB_cases h1 h2
  unfold makeP at hm
  unfold mk2
  by_cases h : plainB x.1 = false ∨ plainB x.2 = false
  · rw [if_pos h] at hm
    rw [c1 h]; exact pmade_k E hm
  · rw [if_neg h] at hm
    by_cases h' : idx x.2 < idx x.1
    · rw [if_pos h'] at hm
      rw [(c2 h).1 h']; exact pmade_k E hm
    · rw [if_neg h'] at hm
      rw [(c2 h).2 h']; exact pmade_k E hm
end Go.Enc
