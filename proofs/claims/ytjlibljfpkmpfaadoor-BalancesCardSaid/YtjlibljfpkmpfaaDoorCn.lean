/-
  The corners of products and of quotients, and where they are rounded to.
  Sums, differences, products, quotients of intervals: plain where they are not too great; they hold.
-/
import Derived.Test.YtjlibljfpkmpfaaDoorOpk
section
set_option linter.unusedSimpArgs false
namespace Go.Enc
open Go.Proofs Go.Enc.Fl

theorem num_of_idx {b : Nat} (h : -(inf : Int) ≤ idx b ∧ idx b ≤ inf) : Num b := by
  unfold Num
  rw [idx_sgn] at h
  split at h <;> omega
theorem side_num {p r : Nat} (w : Int) (hl : p < 2 ^ 64) (hf : Fl.Fin p) : Num (side p r w) := by
  have hi := idx_fin.1 hf
  unfold side
  split
  · have := (nextDn_idx hl hf).1
    exact num_of_idx (by omega)
  · split
    · have := (nextUp_idx hl hf).1
      exact num_of_idx (by omega)
    · exact hf.num
theorem p901_val : p901 = 549439154539200512 := by unfold p901 pw; omega
theorem small_iff {p : Nat} (hn : Num p) : (FloatKind.f64.format.order (p % 2 ^ 63) 549439154539200512 == some Ordering.lt) = decide (-p901 < idx p ∧ idx p < p901) := by
  rw [ord_lt (num_abs.2 hn) (show Num 549439154539200512 by decide), idx_abs, show idx 549439154539200512 = 549439154539200512 by decide, p901_val]
  congr 1
  rw [eq_iff_iff]
  have := idx_sgn p
  split at this <;> omega
theorem one_iff {p : Nat} (hn : Num p) : (FloatKind.f64.format.order (p % 2 ^ 63) 4607182418800017408 == some Ordering.gt) = decide ((4607182418800017408 : Int) < (p % 2 ^ 63 : Nat)) := by
  rw [ord_gt (num_abs.2 hn) (show Num 4607182418800017408 by decide), idx_abs, show idx 4607182418800017408 = 4607182418800017408 by decide]
theorem nan_not : ¬ Num 9221120237041090561 := by decide
theorem lt0_iff {a : Nat} (ha : Num a) : (FloatKind.f64.format.order a 0 == some Ordering.lt) = decide (idx a < 0) := by
  have := ord_lt ha num0.1
  rwa [num0.2] at this
theorem eq0_iff {a : Nat} (ha : Num a) : (FloatKind.f64.format.order a 0 == some Ordering.eq) = decide (idx a = 0) := by
  have := ord_eq ha num0.1
  rwa [num0.2] at this
theorem ne0_iff {a : Nat} (ha : Num a) : (FloatKind.f64.format.order a 0 != some Ordering.eq) = !decide (idx a = 0) := by
  have := ord_ne ha num0.1
  rwa [num0.2] at this
/-- What tiny answers is what stands in the place. -/
theorem tiny_eq {p : Nat} {z : Prop} {n1 n2 : Bool} (hn : Num p) (ho : Odd p z) : (if decide ((4607182418800017408 : Int) < (p % 2 ^ 63 : Nat)) = true then p else if (n1 != n2) = true then 9223372036854775809 else 1) = tinyB p (n1 != n2) := by
  unfold tinyB
  by_cases h : p % 2 ^ 63 = inf
  · rw [if_pos h, if_pos (decide_eq_true (by rw [h]; unfold inf; omega))]
  · rw [if_neg h]
    have : ¬ ((4607182418800017408 : Int) < (p % 2 ^ 63 : Nat)) := by
      unfold Odd at ho
      rw [p901_val] at ho
      have := idx_sgn p
      rcases ho with ho | ho | ho
      · split at this <;> omega
      · exact absurd ho h
      · split at this <;> omega
    rw [if_neg (by simpa using this)]
set_option maxRecDepth 100000 in
theorem mul_cor (E : Nat → Option Value) {a b : Nat} (ha : OkB a) (hb : OkB b) : ∃ l h, Corner E 63 timesS a b l h ∧ DnK (v (idx a) * v (idx b)) (K (idx l)) ∧ UpK (v (idx a) * v (idx b)) (K (idx h)) := by
  obtain ⟨p, ep, hl, hn, c1, c2⟩ := mul_corner ha hb
  have na := ha.fin.num
  have nb := hb.fin.num
  have g1 := small_iff hn
  have g2 := ne0_iff hn
  have g4 := eq0_iff hn
  have g5 := ne0_iff na
  have g6 := ne0_iff nb
  have ep' : FloatKind.f64.format.mul a b = some p := ep
  have ho : oddM (decide (-p901 < idx p ∧ idx p < p901)) (!decide (idx p = 0)) (decide (p % 2 ^ 63 = inf)) (decide (idx p = 0)) (!decide (idx a = 0)) (!decide (idx b = 0)) = true ↔ Odd p (idx a = 0 ∨ idx b = 0) := by
    simp only [oddM, Odd, Bool.or_eq_true, Bool.and_eq_true, Bool.not_eq_true', decide_eq_true_eq, decide_eq_false_iff_not]
    omega
  by_cases h : Odd p (idx a = 0 ∨ idx b = 0)
  · obtain ⟨d1, d2, d3, d4⟩ := c2 h
    have ho' := ho.2 h
    refine ⟨_, _, ⟨⟨_, _, xmul_odd E (-1) ep' hl hn g1 g2 rfl g4 g5 g6 ho', xmul_odd E 1 ep' hl hn g1 g2 rfl g4 g5 g6 ho', .inr ⟨nan_not, ?_, rfl⟩⟩, d4, d4, d3, d3⟩, d1, d2⟩
    have ht := tiny_k E (s := timesS) (dv := false) (by kernel_rfl) ep' (p := p) (by simpa using ep') hl (one_iff hn) (lt0_iff na) (lt0_iff nb)
    rwa [tiny_eq hn h] at ht
  · obtain ⟨fp, r, er, nr, d1, d2, d3, d4⟩ := c1 h
    have ho' := Bool.eq_false_iff.2 (fun k => h (ho.1 k))
    exact ⟨_, _, ⟨⟨_, _, xmul_ok E (-1) ep' hl hn g1 g2 rfl g4 g5 g6 ho' er (sideD_c E hl fp nr), xmul_ok E 1 ep' hl hn g1 g2 rfl g4 g5 g6 ho' er (sideU_c E hl fp nr), .inl ⟨side_num _ hl fp, rfl, rfl⟩⟩, side_num _ hl fp, side_num _ hl fp, d3, d4⟩, d1, d2⟩
set_option maxRecDepth 100000 in
theorem div_cor (E : Nat → Option Value) {a b : Nat} (ha : OkB a) (hb : OkB b) (hb0 : idx b ≠ 0) : ∃ l h, Corner E 65 overS a b l h ∧ DnK (v (idx a) / v (idx b)) (K (idx l)) ∧ UpK (v (idx a) / v (idx b)) (K (idx h)) := by
  obtain ⟨p, ep, hl, hn, c1, c2⟩ := div_corner ha hb hb0
  obtain ⟨m, em, _⟩ := mul_corner ha hb
  have na := ha.fin.num
  have nb := hb.fin.num
  have g1 := small_iff hn
  have g2 := ne0_iff hn
  have g4 := eq0_iff hn
  have g5 := ne0_iff na
  have gb := lt0_iff nb
  have ep' : FloatKind.f64.format.div a b = some p := ep
  have em' : FloatKind.f64.format.mul a b = some m := em
  have ho : oddV (decide (-p901 < idx p ∧ idx p < p901)) (!decide (idx p = 0)) (decide (p % 2 ^ 63 = inf)) (decide (idx p = 0)) (!decide (idx a = 0)) = true ↔ Odd p (idx a = 0) := by
    simp only [oddV, Odd, Bool.or_eq_true, Bool.and_eq_true, Bool.not_eq_true', decide_eq_true_eq, decide_eq_false_iff_not]
    omega
  by_cases h : Odd p (idx a = 0)
  · obtain ⟨d1, d2, d3, d4⟩ := c2 h
    have ho' := ho.2 h
    refine ⟨_, _, ⟨⟨_, _, xdiv_odd E (-1) ep' hl hn g1 g2 rfl g4 g5 ho', xdiv_odd E 1 ep' hl hn g1 g2 rfl g4 g5 ho', .inr ⟨nan_not, ?_, rfl⟩⟩, d4, d4, d3, d3⟩, d1, d2⟩
    have ht := tiny_k E (s := overS) (dv := true) (by kernel_rfl) em' (p := p) (by simpa using ep') hl (one_iff hn) (lt0_iff na) (lt0_iff nb)
    rwa [tiny_eq hn h] at ht
  · obtain ⟨fp, r, er, rl, nr, d1, d2, d3, d4⟩ := c1 h
    have ho' := Bool.eq_false_iff.2 (fun k => h (ho.1 k))
    have nr' : Num (if idx b < 0 then fneg r else r) := by
      split
      · unfold Num; rw [(fneg_spec rl).2.1]; exact nr
      · exact nr
    have hsD := sideD_c E hl fp nr'
    have hsU := sideU_c E hl fp nr'
    have e : (if decide (idx b < 0) = true then fneg r else r) = (if idx b < 0 then fneg r else r) := by simp
    exact ⟨_, _, ⟨⟨_, _, xdiv_ok E (-1) ep' hl hn g1 g2 rfl g4 g5 ho' er gb (by rw [e]; exact hsD), xdiv_ok E 1 ep' hl hn g1 g2 rfl g4 g5 ho' er gb (by rw [e]; exact hsU), .inl ⟨side_num _ hl fp, rfl, rfl⟩⟩, side_num _ hl fp, side_num _ hl fp, d3, d4⟩, d1, d2⟩
end Go.Enc
end

section
set_option linter.unusedSimpArgs false
set_option maxRecDepth 100000
namespace Go.Enc
open Go.Proofs Go.Enc.Fl

/-- An interval of plain ends in their order, no nought with a sign. -/
structure Gd (x : Nat × Nat) : Prop where
  l1 : x.1 < 18446744073709551616
  l2 : x.2 < 18446744073709551616
  p1 : plainB x.1 = true
  p2 : plainB x.2 = true
  le : idx x.1 ≤ idx x.2
  q1 : posB x.1 = x.1
  q2 : posB x.2 = x.2
theorem ok_plain {b : Nat} (h : ok (idx b)) : plainB b = true := by
  unfold plainB
  apply decide_eq_true
  have := idx_sgn b
  unfold ok p0 p1 at h
  split at this <;> omega
theorem plain_ok {b : Nat} (h : plainB b = true) (hl : b < 18446744073709551616) : OkB b := by
  refine ⟨hl, ?_⟩
  have h := of_decide_eq_true h
  have := idx_sgn b
  unfold ok p0 p1
  split at this <;> omega
theorem posB_idx (b : Nat) : idx (posB b) = idx b := by
  unfold posB
  split
  · rename_i h; subst h; decide
  · rfl
theorem posB_plain {b : Nat} (h : plainB b = true) : plainB (posB b) = true := by
  unfold posB
  split
  · decide
  · exact h
/-- A class is plain where the number is of a plain amount. -/
def Mid (X : Rat) : Prop := X = 0 ∨ (v p0 ≤ X ∧ X < v (p1 + 1)) ∨ (v (-p1) ≤ X ∧ X < v (-p0 + 1))
theorem Mid.dn {X : Rat} {k : Int} (hx : Mid X) (h : DnK X k) : ok k := by
  obtain ⟨b1, b2, b3, b4⟩ := vs
  have c := p0_lt
  unfold DnK at h
  unfold Mid at hx
  unfold ok
  rcases h with ⟨h1, h2⟩ | ⟨h1, h2, h3⟩ | ⟨h1, h2, h3⟩ | ⟨h1, h2⟩ | ⟨h1, h2, h3⟩ | ⟨h1, h2, h3⟩ | ⟨h1, h2⟩
  · exact .inl h2
  · exfalso; grind
  · have := h3.ge h1; have := h3.lt h2; omega
  · exfalso; grind
  · exfalso; grind
  · have := h3.ge h1; have := h3.lt h2; omega
  · exfalso; grind
theorem Mid.neg {X : Rat} (h : v (-p1) < X ∧ X < v p1 ∧ (X = 0 ∨ v p0 ≤ X ∨ X ≤ v (-p0))) : Mid X ∧ Mid (-X) := by
  have c := p0_lt
  have m1 := v_lt (i := p1) (j := p1 + 1) (by omega)
  have m2 := v_lt (i := -p0) (j := -p0 + 1) (by omega)
  have n1 := v_neg p1
  have n2 := v_neg p0
  have z1 := v_lt (i := 0) (j := p0) (by omega)
  rw [v_zero] at z1
  unfold Mid
  constructor
  · grind
  · grind
theorem k_ok {i : Int} (h : ok (K i)) : ok i ∧ K i = i := ⟨(K_ok i).1.1 h, (K_ok i).2 ((K_ok i).1.1 h)⟩
/-- What the ends give. -/
theorem ends_ok {E : Nat → Option Value} {q : Nat → Addr} (hq : Sent E q) (nm : ByteArray) {lo hi : Nat} (h1 : lo < 18446744073709551616) (h2 : hi < 18446744073709551616) (k1 : ok (idx lo)) (k2 : ok (idx hi)) (hle : idx lo ≤ idx hi) :
    DCall Tryd.prog E 60 [strD nm, flD lo, flD hi] (.data (.tup [ivD (posB lo, posB hi), .v .nilIface])) ∧ Gd (posB lo, posB hi) := by
  have h := ends_c hq nm h1 h2
  have p1 := ok_plain k1
  have p2 := ok_plain k2
  unfold endsP at h
  rw [if_neg (by rw [p1, p2]; simp)] at h
  exact ⟨h, ⟨posB_lt h1, posB_lt h2, posB_plain p1, posB_plain p2, by simp only [posB_idx]; exact hle, posB_pos _, posB_pos _⟩⟩
/-- A SUM of what is plain. -/
theorem add_c (E : Nat → Option Value) {a b : Nat} (ha : OkB a) (hb : OkB b) : ∃ l h, DCall Tryd.prog E 61 [flD a, flD b, intD (-1)] (.data (flD l)) ∧ DCall Tryd.prog E 61 [flD a, flD b, intD 1] (.data (flD h)) ∧
    l < 2 ^ 64 ∧ h < 2 ^ 64 ∧ Dn (v (idx a) + v (idx b)) (idx l) ∧ Up (v (idx a) + v (idx b)) (idx h) := by
  obtain ⟨s, t, c, d, f, r, es, et, ec, ed, ef, er, sl, sf, rn, ⟨d1, d2⟩, u1, u2⟩ := add_round ha hb
  exact ⟨_, _, xadd_c E es et ec ed ef er (sideD_c E sl sf rn), xadd_c E es et ec ed ef er (sideU_c E sl sf rn), d2, u2, d1, u1⟩
theorem mins {a b c d x : Int} (h : x = a ∨ x = b ∨ x = c ∨ x = d) : min (min (min a b) c) d ≤ x := by omega
theorem maxs {a b c d x : Int} (h : x = a ∨ x = b ∨ x = c ∨ x = d) : x ≤ max (max (max a b) c) d := by omega
/-- The corners, where all lie in the range. -/
theorem corners_ok {E : Nat → Option Value} {q : Nat → Addr} (hq : Sent E q) {F : FuncId} (hF : isP F = false) (op : ByteArray) {x0 x1 y0 y1 : Nat} (X : Nat → Nat → Rat)
    (hc : ∀ j k, j < 2 → k < 2 → ∃ l h, Corner E F op (two x0 x1 j) (two y0 y1 k) l h ∧ DnK (X j k) (K (idx l)) ∧ UpK (X j k) (K (idx h))) (hm : ∀ j k, j < 2 → k < 2 → Mid (X j k) ∧ Mid (-(X j k))) :
    ∃ r, DCall Tryd.prog E 62 [strD op, ivD (x0, x1), ivD (y0, y1), .v (.func (.func F) #[] #[])] (.data (.tup [ivD r, .v .nilIface])) ∧ Gd r ∧ ∀ j k, j < 2 → k < 2 → v (idx r.1) ≤ X j k ∧ X j k ≤ v (idx r.2) := by
  have hc' : ∀ n, ∃ p : Nat × Nat, n < 4 → Corner E F op (two x0 x1 (n / 2)) (two y0 y1 (n % 2)) p.1 p.2 ∧ DnK (X (n / 2) (n % 2)) (K (idx p.1)) ∧ UpK (X (n / 2) (n % 2)) (K (idx p.2)) := fun n => by
    by_cases hn : n < 4
    · obtain ⟨l, h, h1⟩ := hc (n / 2) (n % 2) (by omega) (by omega)
      exact ⟨(l, h), fun _ => h1⟩
    · exact ⟨(0, 0), fun h => absurd h hn⟩
  have ⟨f, hf⟩ := Classical.axiomOfChoice hc'
  let ls : Nat → Nat := fun n => (f n).1
  let hs : Nat → Nat := fun n => (f n).2
  have hcs : ∀ j k, j < 2 → k < 2 → Corner E F op (two x0 x1 j) (two y0 y1 k) (ls (2 * j + k)) (hs (2 * j + k)) := fun j k hj hk => by
    have h := (hf (2 * j + k) (by omega)).1
    rw [show (2 * j + k) / 2 = j by omega, show (2 * j + k) % 2 = k by omega] at h
    exact h
  have hl : ∀ n, n < 4 → Num (ls n) ∧ ls n < 18446744073709551616 := fun n hn => ⟨(hf n hn).1.ln, (hf n hn).1.ll⟩
  have hh : ∀ n, n < 4 → Num (hs n) ∧ hs n < 18446744073709551616 := fun n hn => ⟨(hf n hn).1.hn, (hf n hn).1.hl⟩
  have okl : ∀ n, n < 4 → ok (idx (ls n)) ∧ v (idx (ls n)) ≤ X (n / 2) (n % 2) := fun n hn => by
    obtain ⟨_, d, _⟩ := hf n hn
    have h1 := (hm (n / 2) (n % 2) (by omega) (by omega)).1.dn d
    have h2 := k_ok h1
    refine ⟨h2.1, ?_⟩
    have := (d.val h1).1
    rwa [h2.2] at this
  have okh : ∀ n, n < 4 → ok (idx (hs n)) ∧ X (n / 2) (n % 2) ≤ v (idx (hs n)) := fun n hn => by
    obtain ⟨_, _, d⟩ := hf n hn
    have h0 : ok (-(K (idx (hs n)))) := (hm (n / 2) (n % 2) (by omega) (by omega)).2.dn d
    have h1 : ok (K (idx (hs n))) := by have := ok_neg h0; rwa [Int.neg_neg] at this
    have h2 := k_ok h1
    refine ⟨h2.1, ?_⟩
    have := (UpK.val d h1).2
    rwa [h2.2] at this
  have hcor := corners_c hq hF op hcs
  have i0 : idx (loS ls 0) = (inf : Int) := by show idx 9218868437227405312 = _; decide
  have j0 : idx (hiS hs 0) = -(inf : Int) := by show idx 18442240474082181120 = _; decide
  have a1 := (loS_pick hl (n := 0) (by omega)).2
  have a2 := (loS_pick hl (n := 1) (by omega)).2
  have a3 := (loS_pick hl (n := 2) (by omega)).2
  have a4 := (loS_pick hl (n := 3) (by omega)).2
  have b1 := (hiS_pick hh (n := 0) (by omega)).2
  have b2 := (hiS_pick hh (n := 1) (by omega)).2
  have b3 := (hiS_pick hh (n := 2) (by omega)).2
  have b4 := (hiS_pick hh (n := 3) (by omega)).2
  have hp := p0_lt
  have o0 := okl 0 (by omega); have o1 := okl 1 (by omega); have o2 := okl 2 (by omega); have o3 := okl 3 (by omega)
  have u0 := okh 0 (by omega); have u1 := okh 1 (by omega); have u2 := okh 2 (by omega); have u3 := okh 3 (by omega)
  have bnd : ∀ {i : Int}, ok i → -(inf : Int) ≤ i ∧ i ≤ inf := fun h => by unfold ok at h; omega
  have q0 := bnd o0.1; have q1 := bnd o1.1; have q2 := bnd o2.1; have q3 := bnd o3.1
  have r0 := bnd u0.1; have r1 := bnd u1.1; have r2 := bnd u2.1; have r3 := bnd u3.1
  have cl : ∀ {i j : Int}, ok i → ok j → ok (min i j) := fun {i j} h g => by
    rcases Int.le_total i j with e | e
    · rw [Int.min_eq_left e]; exact h
    · rw [Int.min_eq_right e]; exact g
  have cg : ∀ {i j : Int}, ok i → ok j → ok (max i j) := fun {i j} h g => by
    rcases Int.le_total i j with e | e
    · rw [Int.max_eq_right e]; exact g
    · rw [Int.max_eq_left e]; exact h
  have eL : idx (loS ls 4) = min (min (min (idx (ls 0)) (idx (ls 1))) (idx (ls 2))) (idx (ls 3)) := by
    rw [a4, a3, a2, a1, i0, Int.min_eq_right q0.2]
  have eH : idx (hiS hs 4) = max (max (max (idx (hs 0)) (idx (hs 1))) (idx (hs 2))) (idx (hs 3)) := by
    rw [b4, b3, b2, b1, j0, Int.max_eq_right r0.1]
  have oL : ok (idx (loS ls 4)) := by rw [eL]; exact cl (cl (cl o0.1 o1.1) o2.1) o3.1
  have oH : ok (idx (hiS hs 4)) := by rw [eH]; exact cg (cg (cg u0.1 u1.1) u2.1) u3.1
  have all : ∀ j k, j < 2 → k < 2 → v (idx (loS ls 4)) ≤ X j k ∧ X j k ≤ v (idx (hiS hs 4)) := fun j k hj hk => by
    have g1 := (okl (2 * j + k) (by omega)).2
    have g2 := (okh (2 * j + k) (by omega)).2
    rw [show (2 * j + k) / 2 = j by omega, show (2 * j + k) % 2 = k by omega] at g1 g2
    have c4 : 2 * j + k = 0 ∨ 2 * j + k = 1 ∨ 2 * j + k = 2 ∨ 2 * j + k = 3 := by omega
    refine ⟨Rat.le_trans (v_le ?_) g1, Rat.le_trans g2 (v_le ?_)⟩
    · rw [eL]; exact mins (by rcases c4 with e | e | e | e <;> rw [e] <;> simp)
    · rw [eH]; exact maxs (by rcases c4 with e | e | e | e <;> rw [e] <;> simp)
  have hle : idx (loS ls 4) ≤ idx (hiS hs 4) := by
    obtain ⟨g1, g2⟩ := all 0 0 (by omega) (by omega)
    exact v_le_iff.1 (Rat.le_trans g1 g2)
  obtain ⟨he, hg⟩ := ends_ok hq op (loS_spec hl 4 (by omega)).2 (hiS_spec hh 4 (by omega)).2 oL oH hle
  have hE : endsP q op (loS ls 4) (hiS hs 4) = .tup [ivD (posB (loS ls 4), posB (hiS hs 4)), .v .nilIface] := by
    unfold endsP; rw [if_neg (by rw [ok_plain oL, ok_plain oH]; simp)]
  rw [hE] at hcor
  exact ⟨_, hcor, hg, fun j k hj hk => by simp only [posB_idx]; exact all j k hj hk⟩
end Go.Enc
end
