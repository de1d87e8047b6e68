/-
  Sums and products of intervals hold the sums and products; so does Eval.
-/
import Derived.Test.YtjlibljfpkmpfaaDoorPl
set_option linter.unusedSimpArgs false
set_option maxRecDepth 100000
namespace Go.Enc
open Go.Proofs Go.Enc.Nu Go.Enc.Fl

/-- An interval holds a number. -/
def In (X : Nat × Nat) (t : Rat) : Prop := v (idx X.1) ≤ t ∧ t ≤ v (idx X.2)
theorem low_of {X : Rat} {k l : Int} (h : DnK X k) (hl : ok l) (hle : l ≤ k) : v l ≤ X := by
  refine Rat.not_lt.1 fun hx => ?_
  have h1 := h.mono (dnk_self hl) (Rat.le_of_lt hx)
  obtain rfl : k = l := by omega
  have := (h.val hl).1
  grind
theorem high_of {X : Rat} {k l : Int} (h : UpK X k) (hl : ok l) (hle : k ≤ l) : X ≤ v l := by
  refine Rat.not_lt.1 fun hx => ?_
  have h1 := (upk_self hl).mono h (Rat.le_of_lt hx)
  obtain rfl : k = l := by omega
  have := (UpK.val h hl).2
  grind
theorem lin_lo {p q s t L : Rat} (h1 : L ≤ p * s) (h2 : L ≤ q * s) (h3 : p ≤ t) (h4 : t ≤ q) : L ≤ t * s := by
  rcases Rat.le_total (a := 0) (b := s) with h | h
  · have := Rat.mul_le_mul_of_nonneg_right h3 h
    grind
  · have := Rat.mul_le_mul_of_nonneg_right h4 (c := -s) (by grind)
    rw [Rat.mul_neg, Rat.mul_neg] at this
    grind
theorem lin_hi {p q s t L : Rat} (h1 : p * s ≤ L) (h2 : q * s ≤ L) (h3 : p ≤ t) (h4 : t ≤ q) : t * s ≤ L := by
  have := lin_lo (p := p) (q := q) (s := -s) (t := t) (L := -L) (by rw [Rat.mul_neg]; grind) (by rw [Rat.mul_neg]; grind) h3 h4
  rw [Rat.mul_neg] at this
  grind
theorem bil {a1 a2 b1 b2 x y L H : Rat} (h11 : L ≤ a1 * b1 ∧ a1 * b1 ≤ H) (h12 : L ≤ a1 * b2 ∧ a1 * b2 ≤ H) (h21 : L ≤ a2 * b1 ∧ a2 * b1 ≤ H) (h22 : L ≤ a2 * b2 ∧ a2 * b2 ≤ H)
    (hx1 : a1 ≤ x) (hx2 : x ≤ a2) (hy1 : b1 ≤ y) (hy2 : y ≤ b2) : L ≤ x * y ∧ x * y ≤ H := by
  have l1 := lin_lo h11.1 h21.1 hx1 hx2
  have l2 := lin_lo h12.1 h22.1 hx1 hx2
  have u1 := lin_hi h11.2 h21.2 hx1 hx2
  have u2 := lin_hi h12.2 h22.2 hx1 hx2
  rw [Rat.mul_comm] at l1 l2 u1 u2
  have l := lin_lo l1 l2 hy1 hy2
  have u := lin_hi u1 u2 hy1 hy2
  rw [Rat.mul_comm] at l u
  exact ⟨l, u⟩
section
variable {E : Nat → Option Value} {q : Nat → Addr} {a b : Nat × Nat}
theorem gd_o1 (g : Gd a) : OkB a.1 := plain_ok g.p1 g.l1
theorem gd_o2 (g : Gd a) : OkB a.2 := plain_ok g.p2 g.l2
theorem oks_of {l h : Nat} (p1 : plainB l = true) (p2 : plainB h = true) (ll : l < 18446744073709551616) (lh : h < 18446744073709551616) : ok (idx l) ∧ ok (idx h) := ⟨(plain_ok p1 ll).2, (plain_ok p2 lh).2⟩
/-- What an operation answers: an interval, or an error. -/
def Res2 (r : Nat × Nat) (e : D) (P : Prop) : Prop := (e = .v .nilIface ∧ Gd r ∧ P) ∨ (r = (0, 0) ∧ ∃ s d, e = opE s d)
theorem imul_in (hq : Sent E q) (g : Gd a) (g' : Gd b) : ∃ r e, DCall Tryd.prog E 32 [ivD a, ivD b] (.data (.tup [ivD r, e])) ∧ Res2 r e (∀ x y, In a x → In b y → In r (x * y)) := by
  have hc' : ∀ n, ∃ p : Nat × Nat, n < 4 → Corner E 63 timesS (two a.1 a.2 (n / 2)) (two b.1 b.2 (n % 2)) p.1 p.2 ∧ DnK (v (idx (two a.1 a.2 (n / 2))) * v (idx (two b.1 b.2 (n % 2)))) (K (idx p.1)) ∧ UpK (v (idx (two a.1 a.2 (n / 2))) * v (idx (two b.1 b.2 (n % 2)))) (K (idx p.2)) := fun n => by
    by_cases hn : n < 4
    · have oa : OkB (two a.1 a.2 (n / 2)) := by
        rcases (show n / 2 = 0 ∨ n / 2 = 1 by omega) with h | h <;> rw [h]
        · exact gd_o1 g
        · exact gd_o2 g
      have ob : OkB (two b.1 b.2 (n % 2)) := by
        rcases (show n % 2 = 0 ∨ n % 2 = 1 by omega) with h | h <;> rw [h]
        · exact gd_o1 g'
        · exact gd_o2 g'
      obtain ⟨l, h, h1⟩ := mul_cor E oa ob
      exact ⟨(l, h), fun _ => h1⟩
    · exact ⟨(0, 0), fun h => absurd h hn⟩
  have ⟨f, hf⟩ := Classical.axiomOfChoice hc'
  let ls : Nat → Nat := fun n => (f n).1
  let hs : Nat → Nat := fun n => (f n).2
  have hcs : ∀ j k, j < 2 → k < 2 → Corner E 63 timesS (two a.1 a.2 j) (two b.1 b.2 k) (ls (2 * j + k)) (hs (2 * j + k)) := fun j k hj hk => by
    have h := (hf (2 * j + k) (by omega)).1
    rw [show (2 * j + k) / 2 = j by omega, show (2 * j + k) % 2 = k by omega] at h
    exact h
  have hl : ∀ n, n < 4 → Num (ls n) ∧ ls n < 18446744073709551616 := fun n hn => ⟨(hf n hn).1.ln, (hf n hn).1.ll⟩
  have hh : ∀ n, n < 4 → Num (hs n) ∧ hs n < 18446744073709551616 := fun n hn => ⟨(hf n hn).1.hn, (hf n hn).1.hl⟩
  have hcor := corners_c hq (F := 63) rfl timesS hcs
  have l4 := (loS_spec hl 4 (by omega)).2
  have h4 := (hiS_spec hh 4 (by omega)).2
  have cl : ∀ n, n < 4 → idx (loS ls 4) ≤ idx (ls n) := fun n hn => by
    have a1 : idx (loS ls 1) = min (idx (loS ls 0)) (idx (ls 0)) := (loS_pick hl (n := 0) (by omega)).2
    have a2 : idx (loS ls 2) = min (idx (loS ls 1)) (idx (ls 1)) := (loS_pick hl (n := 1) (by omega)).2
    have a3 : idx (loS ls 3) = min (idx (loS ls 2)) (idx (ls 2)) := (loS_pick hl (n := 2) (by omega)).2
    have a4 : idx (loS ls 4) = min (idx (loS ls 3)) (idx (ls 3)) := (loS_pick hl (n := 3) (by omega)).2
    rcases (show n = 0 ∨ n = 1 ∨ n = 2 ∨ n = 3 by omega) with rfl | rfl | rfl | rfl <;> omega
  have ch : ∀ n, n < 4 → idx (hs n) ≤ idx (hiS hs 4) := fun n hn => by
    have b1 : idx (hiS hs 1) = max (idx (hiS hs 0)) (idx (hs 0)) := (hiS_pick hh (n := 0) (by omega)).2
    have b2 : idx (hiS hs 2) = max (idx (hiS hs 1)) (idx (hs 1)) := (hiS_pick hh (n := 1) (by omega)).2
    have b3 : idx (hiS hs 3) = max (idx (hiS hs 2)) (idx (hs 2)) := (hiS_pick hh (n := 2) (by omega)).2
    have b4 : idx (hiS hs 4) = max (idx (hiS hs 3)) (idx (hs 3)) := (hiS_pick hh (n := 3) (by omega)).2
    rcases (show n = 0 ∨ n = 1 ∨ n = 2 ∨ n = 3 by omega) with rfl | rfl | rfl | rfl <;> omega
  unfold endsP at hcor
  by_cases hp : plainB (loS ls 4) = false ∨ plainB (hiS hs 4) = false
  · rw [if_pos hp] at hcor
    exact ⟨_, _, imul_k E hcor, .inr ⟨rfl, _, _, rfl⟩⟩
  · rw [if_neg hp] at hcor
    have p1 : plainB (loS ls 4) = true := by simpa using (not_or.1 hp).1
    have p2 : plainB (hiS hs 4) = true := by simpa using (not_or.1 hp).2
    obtain ⟨o1, o2⟩ := oks_of p1 p2 l4 h4
    have cor : ∀ n, n < 4 → v (idx (loS ls 4)) ≤ v (idx (two a.1 a.2 (n / 2))) * v (idx (two b.1 b.2 (n % 2))) ∧ v (idx (two a.1 a.2 (n / 2))) * v (idx (two b.1 b.2 (n % 2))) ≤ v (idx (hiS hs 4)) := fun n hn => by
      obtain ⟨_, d, u⟩ := hf n hn
      have k1 := K_mono (cl n hn)
      have k2 := K_mono (ch n hn)
      rw [(K_ok _).2 o1] at k1
      rw [(K_ok _).2 o2] at k2
      exact ⟨low_of d o1 k1, high_of u o2 k2⟩
    have c0 := cor 0 (by omega); have c1 := cor 1 (by omega); have c2 := cor 2 (by omega); have c3 := cor 3 (by omega)
    have gr : Gd (posB (loS ls 4), posB (hiS hs 4)) := ⟨posB_lt l4, posB_lt h4, posB_plain p1, posB_plain p2, by simp only [posB_idx]; exact v_le_iff.1 (Rat.le_trans c0.1 c0.2), posB_pos _, posB_pos _⟩
    refine ⟨_, _, imul_k E hcor, .inl ⟨rfl, gr, fun x y hx hy => ?_⟩⟩
    have := bil c0 c1 c2 c3 hx.1 hx.2 hy.1 hy.2
    unfold In
    rw [posB_idx, posB_idx]
    exact this
theorem iadd_in (hq : Sent E q) (g : Gd a) (g' : Gd b) : ∃ r e, DCall Tryd.prog E 30 [ivD a, ivD b] (.data (.tup [ivD r, e])) ∧ Res2 r e (∀ x y, In a x → In b y → In r (x + y)) := by
  obtain ⟨l, _, l1, _, ll, _, ld, _⟩ := add_c E (gd_o1 g) (gd_o1 g')
  obtain ⟨_, h, _, h2, _, lh, _, hu⟩ := add_c E (gd_o2 g) (gd_o2 g')
  have he := ends_c hq plusS ll lh
  unfold endsP at he
  by_cases hp : plainB l = false ∨ plainB h = false
  · rw [if_pos hp] at he
    exact ⟨_, _, iadd_k E l1 h2 he, .inr ⟨rfl, _, _, rfl⟩⟩
  · rw [if_neg hp] at he
    have p1 : plainB l = true := by simpa using (not_or.1 hp).1
    have p2 : plainB h = true := by simpa using (not_or.1 hp).2
    have d1 := ld.1
    have u1 := hu.2
    have ga := v_le g.le
    have gb := v_le g'.le
    have gr : Gd (posB l, posB h) := ⟨posB_lt ll, posB_lt lh, posB_plain p1, posB_plain p2, by simp only [posB_idx]; exact v_le_iff.1 (by grind), posB_pos _, posB_pos _⟩
    refine ⟨_, _, iadd_k E l1 h2 he, .inl ⟨rfl, gr, fun x y hx hy => ?_⟩⟩
    unfold In at *
    rw [posB_idx, posB_idx]
    exact ⟨by grind, by grind⟩
/-- An error of an operation, or none. -/
def errO : Option (ByteArray × D) → D
  | none => .v .nilIface
  | some (s, d) => opE s d
abbrev AnsO := (Nat × Nat) × Option (ByteArray × D)
/-- What two operations do. -/
structure TwoOps (E : Nat → Option Value) (M A : Nat × Nat → Nat × Nat → AnsO) : Prop where
  m : ∀ a b, Gd a → Gd b → DCall Tryd.prog E 32 [ivD a, ivD b] (.data (.tup [ivD (M a b).1, errO (M a b).2])) ∧ ((M a b).2 = none → Gd (M a b).1 ∧ ∀ x y, In a x → In b y → In (M a b).1 (x * y)) ∧ ((M a b).2 ≠ none → (M a b).1 = (0, 0))
  a : ∀ a b, Gd a → Gd b → DCall Tryd.prog E 30 [ivD a, ivD b] (.data (.tup [ivD (A a b).1, errO (A a b).2])) ∧ ((A a b).2 = none → Gd (A a b).1 ∧ ∀ x y, In a x → In b y → In (A a b).1 (x + y)) ∧ ((A a b).2 ≠ none → (A a b).1 = (0, 0))
theorem res2_o {r : Nat × Nat} {e : D} {P : Prop} (h : Res2 r e P) : ∃ o, e = errO o ∧ (o = none → Gd r ∧ P) ∧ (o ≠ none → r = (0, 0)) := by
  rcases h with ⟨rfl, g, p⟩ | ⟨rfl, s, d, rfl⟩
  · exact ⟨none, rfl, fun _ => ⟨g, p⟩, fun h => absurd rfl h⟩
  · exact ⟨some (s, d), rfl, fun h => (by cases h), fun _ => rfl⟩
theorem two_ops (hq : Sent E q) : ∃ M A, TwoOps E M A := by
  have hM : ∀ p : (Nat × Nat) × (Nat × Nat), ∃ R : AnsO, Gd p.1 → Gd p.2 → DCall Tryd.prog E 32 [ivD p.1, ivD p.2] (.data (.tup [ivD R.1, errO R.2])) ∧ (R.2 = none → Gd R.1 ∧ ∀ x y, In p.1 x → In p.2 y → In R.1 (x * y)) ∧ (R.2 ≠ none → R.1 = (0, 0)) := fun p => by
    by_cases h : Gd p.1 ∧ Gd p.2
    · obtain ⟨r, e, h1, h2⟩ := imul_in hq h.1 h.2
      obtain ⟨o, rfl, h3, h4⟩ := res2_o h2
      exact ⟨(r, o), fun _ _ => ⟨h1, h3, h4⟩⟩
    · exact ⟨((0, 0), none), fun h1 h2 => absurd ⟨h1, h2⟩ h⟩
  have hA : ∀ p : (Nat × Nat) × (Nat × Nat), ∃ R : AnsO, Gd p.1 → Gd p.2 → DCall Tryd.prog E 30 [ivD p.1, ivD p.2] (.data (.tup [ivD R.1, errO R.2])) ∧ (R.2 = none → Gd R.1 ∧ ∀ x y, In p.1 x → In p.2 y → In R.1 (x + y)) ∧ (R.2 ≠ none → R.1 = (0, 0)) := fun p => by
    by_cases h : Gd p.1 ∧ Gd p.2
    · obtain ⟨r, e, h1, h2⟩ := iadd_in hq h.1 h.2
      obtain ⟨o, rfl, h3, h4⟩ := res2_o h2
      exact ⟨(r, o), fun _ _ => ⟨h1, h3, h4⟩⟩
    · exact ⟨((0, 0), none), fun h1 h2 => absurd ⟨h1, h2⟩ h⟩
  obtain ⟨M, hM⟩ := Classical.axiomOfChoice hM
  obtain ⟨A, hA⟩ := Classical.axiomOfChoice hA
  exact ⟨fun a b => M (a, b), fun a b => A (a, b), fun a b g g' => hM (a, b) g g', fun a b g g' => hA (a, b) g g'⟩
def coF (l : List Nat) (i : Nat) : Nat := (l[i]?).getD 0
theorem coF_get {l : List Nat} {i x : Nat} (h : l[i]? = some x) : coF l i = x := by unfold coF; rw [h]; rfl
def ptF (c : Nat) : Nat × Nat := (posB c, posB c)
theorem ptF_gd {c : Nat} (hl : c < 18446744073709551616) (hp : plainB c = true) : Gd (ptF c) := ⟨posB_lt hl, posB_lt hl, posB_plain hp, posB_plain hp, Int.le_refl _, posB_pos _, posB_pos _⟩
theorem ptF_in (c : Nat) : In (ptF c) (v (idx c)) := by
  unfold In ptF
  rw [posB_idx]
  exact ⟨Rat.le_refl, Rat.le_refl⟩
section
variable (M A : Nat × Nat → Nat × Nat → AnsO) (l : List Nat) (X : Nat × Nat)
/-- After so many steps. -/
def evO : Nat → AnsO
  | 0 => (ptF (coF l (l.length - 1)), none)
  | j + 1 => if (evO j).2 = none then (if (M (evO j).1 X).2 = none then A (M (evO j).1 X).1 (ptF (coF l (l.length - 2 - j))) else M (evO j).1 X) else evO j
end
/-- A polynomial's value, by its numbers from the last on. -/
def hor (l : List Nat) (t : Rat) : Nat → Rat
  | 0 => v (idx (coF l (l.length - 1)))
  | j + 1 => hor l t j * t + v (idx (coF l (l.length - 2 - j)))
section
variable {M A : Nat × Nat → Nat × Nat → AnsO} {l : List Nat} {X : Nat × Nat}
theorem evO_stop {j : Nat} (h : (evO M A l X j).2 ≠ none) : ∀ i, evO M A l X (j + i) = evO M A l X j
  | 0 => rfl
  | i + 1 => by
    have ih := evO_stop h i
    show (if (evO M A l X (j + i)).2 = none then _ else evO M A l X (j + i)) = _
    rw [ih, if_neg h]
theorem evO_in (O : TwoOps E M A) (hl : ∀ x ∈ l, x < 18446744073709551616) (hr : rightB l = 0) (gX : Gd X) : ∀ j, j < l.length → ((evO M A l X j).2 = none → Gd (evO M A l X j).1 ∧ ∀ t, In X t → In (evO M A l X j).1 (hor l t j)) ∧ ((evO M A l X j).2 ≠ none → (evO M A l X j).1 = (0, 0))
  | 0, hj => by
    obtain ⟨h1, h2, h3⟩ := rightB_ok hr
    obtain ⟨x, hx⟩ := get_of_lt (l := l) (i := l.length - 1) (by omega)
    refine ⟨fun _ => ⟨?_, fun t _ => ?_⟩, fun h => absurd rfl h⟩
    · show Gd (ptF (coF l (l.length - 1)))
      rw [coF_get hx]
      exact ptF_gd (hl x (List.mem_of_getElem? hx)) (h3 x (List.mem_of_getElem? hx))
    · exact ptF_in _
  | j + 1, hj => by
    obtain ⟨h1, h2, h3⟩ := rightB_ok hr
    obtain ⟨i1, i2⟩ := evO_in O hl hr gX j (by omega)
    obtain ⟨x, hx⟩ := get_of_lt (l := l) (i := l.length - 2 - j) (by omega)
    have gp := ptF_gd (hl x (List.mem_of_getElem? hx)) (h3 x (List.mem_of_getElem? hx))
    have e : evO M A l X (j + 1) = if (evO M A l X j).2 = none then (if (M (evO M A l X j).1 X).2 = none then A (M (evO M A l X j).1 X).1 (ptF (coF l (l.length - 2 - j))) else M (evO M A l X j).1 X) else evO M A l X j := rfl
    rw [e]
    by_cases h0 : (evO M A l X j).2 = none
    · rw [if_pos h0]
      obtain ⟨g0, c0⟩ := i1 h0
      obtain ⟨_, m1, m2⟩ := O.m _ _ g0 gX
      by_cases hm : (M (evO M A l X j).1 X).2 = none
      · rw [if_pos hm]
        obtain ⟨gm, cm⟩ := m1 hm
        rw [coF_get hx]
        obtain ⟨_, a1, a2⟩ := O.a _ _ gm gp
        refine ⟨fun ha => ⟨(a1 ha).1, fun t ht => ?_⟩, a2⟩
        show In _ (hor l t j * t + v (idx (coF l (l.length - 2 - j))))
        rw [coF_get hx]
        exact (a1 ha).2 _ _ (cm _ _ (c0 t ht) ht) (ptF_in x)
      · rw [if_neg hm]
        exact ⟨fun h => absurd h hm, m2⟩
    · rw [if_neg h0]
      exact ⟨fun h => absurd h h0, i2⟩
end
end
end Go.Enc
