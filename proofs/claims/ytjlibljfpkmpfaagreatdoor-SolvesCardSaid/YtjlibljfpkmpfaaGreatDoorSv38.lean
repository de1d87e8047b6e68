/-
  A heavy diagonal: the system is solved. No program.
-/
import Derived.Test.YtjlibljfpkmpfaaGreatDoorSv37
set_option linter.unusedSimpArgs false
namespace Go.Enc
open Go.Enc.Fl
/-- A row that is done. -/
def RowOk (B : Nat → Nat → Nat × Nat) (n i : Nat) (L : Int) : Prop := LoA (1 / 2147483648) (B i i) ∧ (-2147483648 ≤ iL (B i i) ∧ iH (B i i) ≤ 2147483648) ∧ (∀ j, i < j → j < n → Qi L 2147483648 (B i j)) ∧ Qi L ((2 : Rat) ^ (300 : Int)) (B i n)
/-- Heavy: four times the others' amounts. -/
def Heavy (a : Nat → Nat → Rat) (n : Nat) : Prop := ∀ i, i < n → a i i ≠ 0 ∧ 4 * offR (fun i j => am (a i j)) 0 n i ≤ am (a i i)
theorem RowOk.congr {B B' : Nat → Nat → Nat × Nat} {n i : Nat} {L : Int} (h : RowOk B n i L) (hi : i < n) (e : ∀ j, j ≤ n → B' i j = B i j) : RowOk B' n i L := by
  unfold RowOk
  rw [e i (by omega)]
  exact ⟨h.1, h.2.1, fun j h1 h2 => by rw [e j (by omega)]; exact h.2.2.1 j h1 h2, by rw [e n (Nat.le_refl _)]; exact h.2.2.2⟩
section
variable {E : Nat → Option Value} {M V S : Nat × Nat → Nat × Nat → AnsQ} (O : Ops3 E M V S) {A B : Nat → Nat → Nat × Nat} {a : Nat → Nat → Rat} {n k : Nat} {c r e U : Rat} {L : Int} {d : Nat → Rat} {m : Nat → Nat → Rat}
theorem Hv.row (h : Hv B n k c r e L U d m) (hk : k < n) (hc : 15 / 4 ≤ c) (hr2 : r ≤ 2) (he : 1 / 2147483648 ≤ e) (hU : 2147483648 ≤ U) (hU2 : U ≤ (2 : Rat) ^ (300 : Int)) : RowOk B n k L := by
  obtain ⟨_, _, mU, _, mkk⟩ := h.sizes hk hc hr2 he hU
  have q := h.am k k (Nat.le_refl _) hk (Nat.le_refl _) (by omega)
  refine ⟨(h.dg k (Nat.le_refl _) hk).mono (Rat.le_trans he (h.w.de k (Nat.le_refl _) hk).1), ⟨by have := q.lo; grind, by have := q.hi; grind⟩, fun j h1 h2 => (h.am k j (Nat.le_refl _) hk (by omega) (by omega)).mono (Int.le_refl _) ?_, (h.am k n (Nat.le_refl _) hk (by omega) (Nat.le_refl _)).mono (Int.le_refl _) (Rat.le_trans (mU k n (Nat.le_refl _) hk (by omega) (Nat.le_refl _)).2 hU2)⟩
  have q1 := h.w.off (by grind) (Nat.le_refl _) hk (show k ≤ j by omega) h2 (by omega)
  have q2 := (h.w.de k (Nat.le_refl _) hk).2
  have q3 := h.w.mp k j (Nat.le_refl _) hk (by omega) (by omega)
  have q4 := Rat.mul_le_mul_of_nonneg_right hc q3
  grind
/-- The last column. -/
theorem Hv.last (h : Hv B n k c r e L U d m) (he : elimS M V S A n k = some B) (hk : k + 1 = n) (hc : 2 ≤ c) (hr : r ≤ 2) : ∃ B', elimS M V S A n n = some B' ∧ ∀ i j, i < n → j ≤ n → B' i j = B i j := by
  obtain ⟨B', h1, h2⟩ := elim_next he (h.pivot (by omega) hc hr) (fun i hi hin _ => by omega) (by omega)
  rw [hk] at h1
  refine ⟨B', h1, fun i j hi hj => ?_⟩
  rw [h2 i j hi hj]
  unfold nxt
  rw [if_neg (by omega)]
theorem heavy0 (P : Pts A a n) (H : Heavy a n) : Hv A n 0 4 1 (1 / 1073741824) 30 2147483648 (fun i => am (a i i)) (fun i j => am (a i j)) := by
  have e30 : (2 : Rat) ^ (-30 : Int) = 1 / 1073741824 := by decide +kernel
  refine ⟨⟨fun i _ hi => am_pos (H i hi).1, fun i _ hi => ⟨?_, P.le i i hi (by omega)⟩, fun i j _ _ _ _ => (am_spec _).1, fun i _ hi => (H i hi).2, fun i _ _ => by show am (a i i) ≤ 1 * am (a i i); grind⟩, P.gd, fun i _ hi => ?_, fun i j _ hi _ hj => ?_, fun i _ hi => ?_⟩
  · rw [← e30]; exact Lw.am_ge (P.lw i i hi (by omega)) (H i hi).1
  · have x := P.eq i i hi (by omega)
    unfold LoA
    rw [x.1, x.2]
    exact (am_spec _).2.1
  · have x := P.eq i j hi hj
    have s := am_spec (a i j)
    exact ⟨by rw [x.1]; exact P.lw i j hi hj, by rw [x.2]; exact P.lw i j hi hj, by rw [x.1]; exact s.2.2.1, by rw [x.2]; exact s.2.2.2⟩
  · have := P.le i n hi (Nat.le_refl _)
    show am (a i n) ≤ 2147483648
    grind
include O
theorem heavy1 (P : Pts A a n) (H : Heavy a n) (hn : 1 < n) : ∃ B d m, elimS M V S A n 1 = some B ∧ (∀ i j, i < n → j ≤ n → B i j = nxt M V S A n 0 i j) ∧ Hv B n 1 (4 * (99 / 100)) (6 / 5) (1 / 1073741824 * (9 / 10)) 90 (2147483648 * 2 ^ 63) d m ∧ RowOk B n 0 30 := by
  have h := heavy0 P H
  have e900 : (2147483648 * 2 ^ 63 : Rat) ≤ (2 : Rat) ^ (900 : Int) := by decide +kernel
  have e300 : (2147483648 : Rat) ≤ (2 : Rat) ^ (300 : Int) := by decide +kernel
  have e30 : (2 : Rat) ^ (30 : Int) = 1073741824 := by decide +kernel
  have e1 : (15 : Rat) / 4 ≤ 4 := by decide +kernel
  have e2 : (1 : Rat) ≤ 2 := by decide +kernel
  have e3 : (1 : Rat) / 2147483648 ≤ 1 / 1073741824 := by decide +kernel
  have e4 : (1 + 1 / 13 * kap1) * kap1 ≤ 6 / 5 * ((1 - 1 / 13 * kap1) * kap0) := by decide +kernel
  have e5 : (0 : Rat) ≤ 6 / 5 := by decide +kernel
  have e6 : (2 : Rat) ≤ 4 := by decide +kernel
  have hu : am (a 0 0) ≤ (2 : Rat) ^ (30 : Int) := by rw [e30]; exact P.le 0 0 (by omega) (by omega)
  obtain ⟨ok, nx⟩ := h.next O (by omega) e1 e2 e3 (u := 30) hu (by omega) (by omega) (by omega) Rat.le_refl e900 e4 e5
  obtain ⟨B, b1, b2⟩ := elim_next (A := A) (k := 0) rfl (h.pivot (by omega) e6 e2) ok (by omega)
  refine ⟨B, _, _, b1, b2, nx B b2, (h.row (by omega) e1 e2 e3 Rat.le_refl e300).congr (by omega) fun j hj => ?_⟩
  rw [b2 0 j (by omega) hj]
  unfold nxt
  rw [if_neg (by omega)]
theorem heavy2 (P : Pts A a n) (H : Heavy a n) (hn : 2 < n) : ∃ B d m, elimS M V S A n 2 = some B ∧ Hv B n 2 (4 * (99 / 100) * (99 / 100)) (7 / 5) (1 / 1073741824 * (9 / 10) * (9 / 10)) 206 (2147483648 * 2 ^ 63 * 2 ^ 63) d m ∧ RowOk B n 0 30 ∧ RowOk B n 1 90 := by
  obtain ⟨B, d, m, b1, b2, h, r0⟩ := heavy1 O P H (by omega)
  have e900 : (2147483648 * 2 ^ 63 * 2 ^ 63 : Rat) ≤ (2 : Rat) ^ (900 : Int) := by decide +kernel
  have e300 : (2147483648 * 2 ^ 63 : Rat) ≤ (2 : Rat) ^ (300 : Int) := by decide +kernel
  have e31 : (2 : Rat) ^ (31 : Int) = 2147483648 := by decide +kernel
  have e1 : (15 : Rat) / 4 ≤ 4 * (99 / 100) := by decide +kernel
  have e2 : (6 : Rat) / 5 ≤ 2 := by decide +kernel
  have e3 : (1 : Rat) / 2147483648 ≤ 1 / 1073741824 * (9 / 10) := by decide +kernel
  have e4 : (6 / 5 + 1 / 13 * kap1) * kap1 ≤ 7 / 5 * ((1 - 1 / 13 * kap1) * kap0) := by decide +kernel
  have e5 : (0 : Rat) ≤ 7 / 5 := by decide +kernel
  have e6 : (2 : Rat) ≤ 4 * (99 / 100) := by decide +kernel
  have eU : (2147483648 : Rat) ≤ 2147483648 * 2 ^ 63 := by decide +kernel
  have hu : m 1 1 ≤ (2 : Rat) ^ (31 : Int) := by rw [e31]; exact (h.sizes (by omega) e1 e2 e3 eU).2.2.2.2
  obtain ⟨ok, nx⟩ := h.next O (by omega) e1 e2 e3 (u := 31) hu (by omega) (by omega) (by omega) eU e900 e4 e5
  obtain ⟨B', c1, c2⟩ := elim_next (A := A) b1 (h.pivot (by omega) e6 e2) ok (by omega)
  have h' := nx B' c2
  have keep : ∀ i, i ≤ 1 → ∀ j, j ≤ n → B' i j = B i j := fun i hi j hj => by
    rw [c2 i j (by omega) hj]
    unfold nxt
    rw [if_neg (by omega)]
  refine ⟨B', _, _, c1, ⟨h'.w, h'.gd, h'.dg, fun i j hi hin hj hjn => ?_, h'.rh⟩, r0.congr (by omega) (keep 0 (by omega)), (h.row (by omega) e1 e2 e3 eU e300).congr (by omega) (keep 1 (by omega))⟩
  have q := h'.am i j hi hin hj hjn
  have s := stage2_end O P (H 0 (by omega)).1 b2 h (by omega) e1 e2 e3 eU e900 (show 1 < i by omega) hin (show 1 < j by omega) hjn
  rw [← c2 i j hin hjn] at s
  exact ⟨s.1, s.2, q.lo, q.hi⟩
theorem heavy3 (P : Pts A a n) (H : Heavy a n) (hn : 3 < n) : ∃ B d m, elimS M V S A n 3 = some B ∧ Hv B n 3 (4 * (99 / 100) * (99 / 100) * (99 / 100)) (17 / 10) (1 / 1073741824 * (9 / 10) * (9 / 10) * (9 / 10)) 443 (2147483648 * 2 ^ 63 * 2 ^ 63 * 2 ^ 63) d m ∧ RowOk B n 0 30 ∧ RowOk B n 1 90 ∧ RowOk B n 2 206 := by
  obtain ⟨B, d, m, b1, h, r0, r1⟩ := heavy2 O P H (by omega)
  have e900 : (2147483648 * 2 ^ 63 * 2 ^ 63 * 2 ^ 63 : Rat) ≤ (2 : Rat) ^ (900 : Int) := by decide +kernel
  have e300 : (2147483648 * 2 ^ 63 * 2 ^ 63 : Rat) ≤ (2 : Rat) ^ (300 : Int) := by decide +kernel
  have e31 : (2 : Rat) ^ (31 : Int) = 2147483648 := by decide +kernel
  have e1 : (15 : Rat) / 4 ≤ 4 * (99 / 100) * (99 / 100) := by decide +kernel
  have e2 : (7 : Rat) / 5 ≤ 2 := by decide +kernel
  have e3 : (1 : Rat) / 2147483648 ≤ 1 / 1073741824 * (9 / 10) * (9 / 10) := by decide +kernel
  have e4 : (7 / 5 + 1 / 13 * kap1) * kap1 ≤ 17 / 10 * ((1 - 1 / 13 * kap1) * kap0) := by decide +kernel
  have e5 : (0 : Rat) ≤ 17 / 10 := by decide +kernel
  have e6 : (2 : Rat) ≤ 4 * (99 / 100) * (99 / 100) := by decide +kernel
  have eU : (2147483648 : Rat) ≤ 2147483648 * 2 ^ 63 * 2 ^ 63 := by decide +kernel
  have hu : m 2 2 ≤ (2 : Rat) ^ (31 : Int) := by rw [e31]; exact (h.sizes (by omega) e1 e2 e3 eU).2.2.2.2
  obtain ⟨ok, nx⟩ := h.next O (by omega) e1 e2 e3 (u := 31) hu (by omega) (by omega) (by omega) eU e900 e4 e5
  obtain ⟨B', c1, c2⟩ := elim_next (A := A) b1 (h.pivot (by omega) e6 e2) ok (by omega)
  have keep : ∀ i, i ≤ 2 → ∀ j, j ≤ n → B' i j = B i j := fun i hi j hj => by
    rw [c2 i j (by omega) hj]
    unfold nxt
    rw [if_neg (by omega)]
  exact ⟨B', _, _, c1, nx B' c2, r0.congr (by omega) (keep 0 (by omega)), r1.congr (by omega) (keep 1 (by omega)), (h.row (by omega) e1 e2 e3 eU e300).congr (by omega) (keep 2 (by omega))⟩
omit O in
def lev (i : Nat) : Int := if i = 0 then 30 else if i = 1 then 90 else if i = 2 then 206 else 443
/-- All columns. -/
theorem heavy_elim (P : Pts A a n) (H : Heavy a n) (h1 : 1 ≤ n) (h4 : n ≤ 4) : ∃ B, elimS M V S A n n = some B ∧ ∀ i, i < n → RowOk B n i (lev i) := by
  have go : ∀ k B c r e L U d m, k + 1 = n → elimS M V S A n k = some B → Hv B n k c r e L U d m → 15 / 4 ≤ c → r ≤ 2 → 1 / 2147483648 ≤ e → 2147483648 ≤ U → U ≤ (2 : Rat) ^ (300 : Int) → L = lev k → (∀ i, i < k → RowOk B n i (lev i)) → ∃ B, elimS M V S A n n = some B ∧ ∀ i, i < n → RowOk B n i (lev i) := by
    intro k B c r e L U d m hk he hv hc hr hee hU hU2 hL hrow
    obtain ⟨B', b1, b2⟩ := hv.last he hk (by grind) hr
    refine ⟨B', b1, fun i hi => ?_⟩
    by_cases q : i = k
    · subst q
      rw [← hL]
      exact (hv.row (by omega) hc hr hee hU hU2).congr hi fun j hj => b2 i j hi hj
    · exact (hrow i (by omega)).congr hi fun j hj => b2 i j hi hj
  rcases (show n = 1 ∨ n = 2 ∨ n = 3 ∨ n = 4 by omega) with q | q | q | q
  · exact go 0 A _ _ _ _ _ _ _ (by omega) rfl (heavy0 P H) (by decide +kernel) (by decide +kernel) (by decide +kernel) (by decide +kernel) (by decide +kernel) rfl (fun i hi => by omega)
  · obtain ⟨B, d, m, b1, _, h, r0⟩ := heavy1 O P H (by omega)
    refine go 1 B _ _ _ _ _ _ _ (by omega) b1 h (by decide +kernel) (by decide +kernel) (by decide +kernel) (by decide +kernel) (by decide +kernel) rfl (fun i hi => ?_)
    obtain rfl : i = 0 := by omega
    exact r0
  · obtain ⟨B, d, m, b1, h, r0, r1⟩ := heavy2 O P H (by omega)
    refine go 2 B _ _ _ _ _ _ _ (by omega) b1 h (by decide +kernel) (by decide +kernel) (by decide +kernel) (by decide +kernel) (by decide +kernel) rfl (fun i hi => ?_)
    rcases (show i = 0 ∨ i = 1 by omega) with rfl | rfl
    · exact r0
    · exact r1
  · obtain ⟨B, d, m, b1, h, r0, r1, r2⟩ := heavy3 O P H (by omega)
    refine go 3 B _ _ _ _ _ _ _ (by omega) b1 h (by decide +kernel) (by decide +kernel) (by decide +kernel) (by decide +kernel) (by decide +kernel) rfl (fun i hi => ?_)
    rcases (show i = 0 ∨ i = 1 ∨ i = 2 by omega) with rfl | rfl | rfl
    · exact r0
    · exact r1
    · exact r2
end
/-- Levels and amounts of the answer's numbers. -/
def oL (i : Nat) : Int := if i = 0 then 893 else if i = 1 then 832 else if i = 2 then 711 else 474
noncomputable def oM (i : Nat) : Rat := if i = 0 then (2 : Rat) ^ (550 : Int) else if i = 1 then 2 ^ (480 : Int) else if i = 2 then 2 ^ (410 : Int) else 2 ^ (340 : Int)
theorem oM_pos (i : Nat) : 0 ≤ oM i := by
  unfold oM
  repeat' split
  all_goals exact Rat.le_of_lt (zpow2_pos _)
theorem oM_le {i j : Nat} (h : i ≤ j) : oM j ≤ oM i := by
  unfold oM
  repeat' split
  all_goals first | (exfalso; omega) | exact zpow_le (by omega)
section
variable {E : Nat → Option Value} {M V S : Nat × Nat → Nat × Nat → AnsQ} (O : Ops3 E M V S) {B : Nat → Nat → Nat × Nat} {n : Nat}
include O
theorem bkT_ok (hG : ∀ i j, i < n → j ≤ n → Gd (B i j)) (h4 : n ≤ 4) {i : Nat} (hi : i < n) (R : RowOk B n i (lev i)) {out : Nat → Nat × Nat} (go : ∀ j, Gd (out j)) (ho : ∀ j, i < j → j < n → Qi (oL j) (oM j) (out j)) :
    ∀ m, i + m < n → (bkT M S B out n i none m).2 = none ∧ Qi (if m = 0 then lev i else oL i - 31) (if m = 0 then (2 : Rat) ^ (300 : Int) else 4294967296 * oM (i + 1) * 4 ^ m) (bkT M S B out n i none m).1
  | 0, _ => ⟨rfl, by rw [if_pos rfl, if_pos rfl]; exact R.2.2.2⟩
  | m + 1, hm => by
    obtain ⟨h1, h2⟩ := bkT_ok hG h4 hi R go ho m (by omega)
    have k1 : kap1 = 1025 / 1024 := rfl
    have gT := bkT_gd (e := none) O hG go hi m (by omega)
    have gB := hG i (i + 1 + m) hi (by omega)
    have qB := R.2.2.1 (i + 1 + m) (by omega) (by omega)
    have qo := ho (i + 1 + m) (by omega) (by omega)
    have o1 := oM_le (show i + 1 ≤ i + 1 + m by omega)
    have o0 := oM_pos (i + 1 + m)
    have o2 : oM (i + 1) ≤ (2 : Rat) ^ (480 : Int) := by
      have := oM_le (show 1 ≤ i + 1 by omega)
      have e : oM 1 = (2 : Rat) ^ (480 : Int) := rfl
      rw [e] at this; exact this
    have o3 : (2 : Rat) ^ (340 : Int) ≤ oM (i + 1) := by
      have := oM_le (show i + 1 ≤ i + 1 + 3 by omega)
      have e : oM (i + 1 + 3) = (2 : Rat) ^ (340 : Int) := by unfold oM; rw [if_neg (by omega), if_neg (by omega), if_neg (by omega)]
      rw [e] at this; exact this
    have e480 : (2 : Rat) ^ (480 : Int) * 2 ^ (100 : Nat) ≤ (2 : Rat) ^ (900 : Int) := by decide +kernel
    have e300 : (2 : Rat) ^ (300 : Int) ≤ (2 : Rat) ^ (340 : Int) := zpow_le (by omega)
    have hlv : 0 ≤ lev i ∧ 0 ≤ oL (i + 1 + m) := by unfold lev oL; constructor <;> (repeat' split) <;> omega
    have hbd : lev i + oL (i + 1 + m) ≤ 900 := by unfold lev oL; repeat' split <;> omega
    have hpm : 2147483648 * oM (i + 1 + m) ≤ (2 : Rat) ^ (900 : Int) := by grind
    obtain ⟨m1, m2⟩ := mulQ O gB (go (i + 1 + m)) qB qo (by omega) (by omega) hpm
    have gP := O.gm gB (go (i + 1 + m))
    have p4 : (1 : Rat) ≤ 4 ^ m ∧ (4 : Rat) ^ m ≤ 64 := by
      rcases (show m = 0 ∨ m = 1 ∨ m = 2 by omega) with rfl | rfl | rfl <;> constructor <;> decide +kernel
    obtain ⟨p, hp⟩ : ∃ p : Rat, (4 : Rat) ^ m = p := ⟨_, rfl⟩
    rw [hp] at p4
    have pm : oM (i + 1) ≤ oM (i + 1) * p := by
      have := Rat.mul_le_mul_of_nonneg_left p4.1 (oM_pos (i + 1))
      grind
    have pm2 : oM (i + 1) * p ≤ oM (i + 1) * 64 := Rat.mul_le_mul_of_nonneg_left p4.2 (oM_pos (i + 1))
    have h2' : Qi (if m = 0 then lev i else oL i - 31) (4294967296 * oM (i + 1) * p) (bkT M S B out n i none m).1 := by
      refine h2.mono (Int.le_refl _) ?_
      split
      · grind
      · rw [hp]; exact Rat.le_refl
    obtain ⟨s1, s2, _⟩ := subQ O gT gP h2' m2 (c := oL i - 31) (by
      by_cases q : m = 0
      · subst q
        rw [if_pos rfl]
        left
        unfold lev oL
        constructor <;> (repeat' split) <;> omega
      · rw [if_neg q]
        right
        refine ⟨Int.le_refl _, ?_⟩
        unfold lev oL
        repeat' split
        all_goals omega) (by unfold oL; repeat' split <;> omega) (by unfold oL; repeat' split <;> omega) (by rw [k1]; grind)
    simp only [bkT]
    refine ⟨by rw [h1, m1, s1]; rfl, ?_⟩
    rw [if_neg (by omega), if_neg (by omega)]
    refine s2.mono (Int.le_refl _) ?_
    rw [Rat.pow_succ, hp, k1]
    grind
end
theorem oM_step {i : Nat} (h : i ≤ 2) : oM i = (2 : Rat) ^ (70 : Int) * oM (i + 1) := by
  rcases (show i = 0 ∨ i = 1 ∨ i = 2 by omega) with rfl | rfl | rfl
  · show (2 : Rat) ^ (550 : Int) = 2 ^ (70 : Int) * 2 ^ (480 : Int)
    rw [← zpow2_add]
    congr 1
  · show (2 : Rat) ^ (480 : Int) = 2 ^ (70 : Int) * 2 ^ (410 : Int)
    rw [← zpow2_add]
    congr 1
  · show (2 : Rat) ^ (410 : Int) = 2 ^ (70 : Int) * 2 ^ (340 : Int)
    rw [← zpow2_add]
    congr 1
section
variable {E : Nat → Option Value} {M V S : Nat × Nat → Nat × Nat → AnsQ} (O : Ops3 E M V S) {A B : Nat → Nat → Nat × Nat} {a : Nat → Nat → Rat} {n : Nat}
include O
theorem bkS_ok (hG : ∀ i j, i < n → j ≤ n → Gd (B i j)) (h4 : n ≤ 4) (R : ∀ i, i < n → RowOk B n i (lev i)) : ∀ m, m ≤ n → (bkS M V S B n m).2 = none ∧ ∀ j, n - m ≤ j → j < n → Qi (oL j) (oM j) ((bkS M V S B n m).1 j)
  | 0, _ => ⟨rfl, fun j h1 h2 => by omega⟩
  | m + 1, hm => by
    obtain ⟨h1, h2⟩ := bkS_ok hG h4 R m (by omega)
    have k1 : kap1 = 1025 / 1024 := rfl
    have gb := bkS_gd O hG m (by omega)
    obtain ⟨i, hi⟩ : ∃ i, n - 1 - m = i := ⟨_, rfl⟩
    have hin : i < n := by omega
    obtain ⟨t1, t2⟩ := bkT_ok O hG h4 hin (R i hin) gb (fun j q1 q2 => h2 j (by omega) q2) m (by omega)
    have gT := bkT_gd (e := none) O hG gb hin m (by omega)
    have gK := hG i i hin (by omega)
    have e31 : (2 : Rat) ^ (31 : Int) = 2147483648 := by decide +kernel
    have el : ((1 : Rat) / 2147483648)⁻¹ = 2147483648 := by decide +kernel
    have e340 : (2 : Rat) ^ (300 : Int) * 2147483648 * kap1 ≤ (2 : Rat) ^ (340 : Int) := by decide +kernel
    have e900 : (2 : Rat) ^ (550 : Int) ≤ (2 : Rat) ^ (900 : Int) := zpow_le (by omega)
    have e70 : (2 : Rat) ^ (70 : Int) = 1180591620717411303424 := by decide +kernel
    have o550 : oM i ≤ (2 : Rat) ^ (550 : Int) := oM_le (i := 0) (by omega)
    have o340 : (2 : Rat) ^ (340 : Int) ≤ oM i := by
      have := oM_le (show i ≤ i + 3 by omega)
      have e : oM (i + 3) = (2 : Rat) ^ (340 : Int) := by unfold oM; rw [if_neg (by omega), if_neg (by omega), if_neg (by omega)]
      rw [e] at this; exact this
    have key : (if m = 0 then (2 : Rat) ^ (300 : Int) else 4294967296 * oM (i + 1) * 4 ^ m) * ((1 : Rat) / 2147483648)⁻¹ * kap1 ≤ oM i := by
      rw [el]
      by_cases q : m = 0
      · rw [if_pos q]; grind
      · rw [if_neg q, oM_step (show i ≤ 2 by omega), e70, k1]
        have p4 : (4 : Rat) ^ m ≤ 64 := by
          rcases (show m = 1 ∨ m = 2 ∨ m = 3 by omega) with rfl | rfl | rfl <;> decide +kernel
        have := Rat.mul_le_mul_of_nonneg_left p4 (oM_pos (i + 1))
        have := oM_pos (i + 1)
        grind
    have hma : (0 : Rat) ≤ (if m = 0 then (2 : Rat) ^ (300 : Int) else 4294967296 * oM (i + 1) * 4 ^ m) * ((1 : Rat) / 2147483648)⁻¹ := by
      have := t2.lo; have := t2.hi; have := gT.iLH
      rw [el]; grind
    obtain ⟨v1, v2⟩ := divQ O gT gK t2 (l := 1 / 2147483648) (by decide +kernel) (R i hin).1 (u := 31) (by rw [e31]; exact (R i hin).2.1.1) (by rw [e31]; exact (R i hin).2.1.2) (by unfold lev oL; repeat' split <;> omega) (by unfold lev oL; repeat' split <;> omega) (by rw [k1] at key; grind)
    simp only [bkS]
    rw [hi, h1]
    refine ⟨by rw [t1, v1]; rfl, fun j q1 q2 => ?_⟩
    simp only [upd]
    by_cases q : j = i
    · subst q
      rw [if_pos rfl]
      refine v2.mono ?_ key
      by_cases q : m = 0
      · rw [if_pos q]; unfold lev oL; repeat' split <;> omega
      · rw [if_neg q]; omega
    · rw [if_neg q]
      exact h2 j (by omega) q2
/-- A HEAVY SYSTEM IS SOLVED. -/
theorem heavy_some (P : Pts A a n) (H : Heavy a n) (h1 : 1 ≤ n) (h4 : n ≤ 4) : ∃ out, solS M V S A n = some out := by
  obtain ⟨B, hB, R⟩ := heavy_elim O P H h1 h4
  have gB := elimS_gd O P.gd n (Nat.le_refl _) B hB
  have := (bkS_ok O gB h4 R n (Nat.le_refl _)).1
  exact ⟨_, by unfold solS; rw [hB]; simp only; rw [this]⟩
end
end Go.Enc
