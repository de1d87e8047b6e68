/-
  Must there be an answer? As the judge asks it.
-/
import Derived.Test.YtjlibljfpkmpfaaGreatDoorSv40
set_option linter.unusedSimpArgs false
set_option maxRecDepth 100000
namespace Go.Enc
open Go.Proofs Go.Enc.Dg Go.Enc.Nu Go.Enc.Fl Go.RowKit
theorem mk2_idj {X : Nat × Nat} (g : Gd X) : mk2 X = X := by
  obtain ⟨lo, hi⟩ := X
  have := ((makeB_cases g.l1 g.l2).2 (by rw [g.p1, g.p2]; simp)).2 (by have := g.le; omega)
  unfold mk2
  rw [this, g.q1, g.q2]
theorem val_lo {X : Nat × Nat} (g : Gd X) : val (loN X) = iL X := by
  unfold loN iL
  rw [mk2_idj g]
  exact nplain_val g.l1 g.p1
theorem val_hi {X : Nat × Nat} (g : Gd X) : val (hiN X) = iH X := by
  unfold hiN iH
  rw [mk2_idj g]
  exact nplain_val g.l2 g.p2
/-- The amounts of a row but one, summed. -/
def offN (f : Nat → Nm) (i : Nat) : Nat → Nm
  | 0 => nzero
  | j + 1 => if i = j then offN f i j else nsum (offN f i j) (f j)
theorem val_offN (f : Nat → Nm) (i : Nat) : ∀ m, val (offN f i m) = smR (fun j => if j ≠ i then val (f j) else 0) m
  | 0 => val_zero rfl
  | m + 1 => by
    simp only [offN, smR]
    by_cases h : i = m
    · rw [if_pos h, if_neg (fun g => g h.symm), val_offN f i m]; grind
    · rw [if_neg h, if_pos (fun g => h g.symm), val_nsum, val_offN f i m]
theorem nr_offN {f : Nat → Nm} (hf : ∀ j, Nr (f j) 60 1000) (i : Nat) : ∀ m, Nr (offN f i m) (60 + m * 2001) 1000
  | 0 => nr_zero _ _
  | m + 1 => by
    have h1 := nr_offN hf i m
    simp only [offN]
    split
    · exact h1.mono (by omega) (Nat.le_refl _)
    · exact (h1.sum ((hf m).mono (by omega) (Nat.le_refl _))).mono (by omega) (Nat.le_refl _)
section
variable (A B : Nat → Nat × Nat) (n : Nat)
/-- The amount of a row's number. -/
def amA (i j : Nat) : Nm := nam (loN (A (n * i + j)))
def e2N (a : Nm) : Nm := ⟨a.neg, a.n, a.e + 2⟩
omit A B n in
theorem nr_e2N {a : Nm} {k L : Nat} (h : Nr a k L) : Nr (e2N a) k (L + 2) := ⟨h.n, by have := h.lo; show _ ≤ a.e + 2; omega, by have := h.hi; show a.e + 2 ≤ _; omega⟩
/-- A row is heavy, its boxes single numbers. -/
def RS (i : Nat) : Prop := (B i).1 = (B i).2 ∧ (∀ j, j < n → (A (n * i + j)).1 = (A (n * i + j)).2) ∧ nless (amA A n i i) (e2N (offN (amA A n i) i n)) = false ∧ nsign (amA A n i i) ≠ 0
open Classical in
noncomputable def sureB : Bool := decide (∀ i, i < n → RS A B n i)
theorem sureB_iff : sureB A B n = true ↔ ∀ i, i < n → RS A B n i := by unfold sureB; simp
end
theorem getD_some {L : List (Nat × Nat)} {i : Nat} (h : i < L.length) : L[i]? = some (L.getD i (0, 0)) := by
  rw [List.getD_eq_getElem?_getD, List.getElem?_eq_getElem h]; rfl
theorem nr_nam {a : Nm} {k L : Nat} (h : Nr a k L) : Nr (nam a) k L := ⟨h.n, h.lo, h.hi⟩
theorem neqN (x y : Nat) : (((x : Int) != (y : Int)) : Bool) = decide (x ≠ y) := by
  rw [Bool.eq_iff_iff, bne_iff_ne, decide_eq_true_eq]; omega
set_option maxHeartbeats 4000000 in
theorem sure_c (E : Nat → Option Value) {LA LB : List (Nat × Nat)} {n : Nat} (hn : n ≤ 4) (hA : LA.length = n * n) (hB : LB.length = n) (bA : Bits LA) : DCall Tryz.prog E 111 [.sl 2 (boxC LA), .sl 2 (boxC LB)] (.data (bD (sureB (fun i => LA.getD i (0, 0)) (fun i => LB.getD i (0, 0)) n))) := by
  obtain ⟨A, hAe⟩ : ∃ A : Nat → Nat × Nat, (fun i => LA.getD i (0, 0)) = A := ⟨_, rfl⟩
  obtain ⟨B, hBe⟩ : ∃ B : Nat → Nat × Nat, (fun i => LB.getD i (0, 0)) = B := ⟨_, rfl⟩
  have gA : ∀ i, i < n * n → LA[i]? = some (A i) := fun i h => by rw [← hAe]; exact getD_some (by omega)
  have gB : ∀ i, i < n → LB[i]? = some (B i) := fun i h => by rw [← hBe]; exact getD_some (by omega)
  rw [hAe, hBe]
  have no : ∀ {i}, i < n → ¬ RS A B n i → sureB A B n = false := fun {i} hi h => by
    cases hs : sureB A B n with
    | false => rfl
    | true => exact absurd ((sureB_iff A B n).1 hs i hi) h
  have hnr : ∀ i j, Nr (amA A n i j) 60 1000 := fun i j => nr_nam (nplain_nr _)
  refine dcall_of Tryz.func111 rfl (by kernel_rfl) Tryz.ntmps111 (by kernel_rfl) (by simp) (rs := [.tmp 4]) rfl ?_
  rintro ⟨P, E, σ0, w0, base, n, kb, df, G0⟩ rfl rfl rfl rfl
  have clA := boxC_lq LA
  have clB := boxC_lq LB
  rw [hA] at clA
  rw [hB] at clB
  have d2 := div_two
  have hmax : maxLen = 9223372036854775807 := by decide
  simp -implicitDefEqProofs only [go_sem, clB, d2]
  rw [stop_eq]
  refine dwp_loop (α := {i : Nat // i ≤ n ∧ ∀ r, r < i → RS A B n r}) (fun i => St.of [(0, .d (.sl 2 (boxC LA))), (1, .d (.sl 2 (boxC LB))), (5, .d (intD n)), (6, .d (intD i.1))] []) (fun i => n - i.1)
    ⟨0, Nat.zero_le _, fun r h => by omega⟩ (weak_of ?_ ?_ rfl) (by kernel_rfl) (fun i => ?_)
  · have c0 : ((0 : Nat) : Int) = 0 := rfl
    simp -implicitDefEqProofs only [go_sem, c0]
  · simp -implicitDefEqProofs only [go_sem]
  obtain ⟨i, hi, hR⟩ := i
  by_cases hiA : i < n
  · have eA : decide ((i : Int) < (n : Int)) = true := tD (by omega)
    have w1 : IntKind.i64.wrap ((i : Int) + 1) = ((i + 1 : Nat) : Int) := addN1 (by omega)
    have tk := boxC_tq (gB i hiA)
    obtain ⟨g1, g2⟩ := boxC_get (gB i hiA)
    have q1 : i * 2 < n * 2 := by omega
    have q2 : i * 2 + 2 ≤ n * 2 := by omega
    have q3 : i * 2 + 1 < n * 2 := by omega
    simp -implicitDefEqProofs only [go_sem, eA]
    refine drawn_intro (by kernel_rfl) (by kernel_rfl) (by kernel_rfl) ?_
    by_cases hb : (B i).1 = (B i).2
    · have eb := tV (show (((B i).1 : Int) != ((B i).2 : Int)) = false by rw [neqN]; exact decide_eq_false (fun h => h hb))
      simp -implicitDefEqProofs only [go_sem, clB, d2, q1, q2, q3, g1, g2, eb]
      rw [stop_eq]
      refine dwp_cell 7 1 (natD 0) rfl rfl (fun σ u h => ?_) ?_
      · have e : natD 0 = .sl 1 [] := by rw [show natD 0 = digD (dg 0) from rfl, dg_zero]; rfl
        rw [e]
        exact rep_nil 1 σ u h
      refine dwp_cell 8 1 (natD 0) rfl rfl (fun σ u h => ?_) ?_
      · have e : natD 0 = .sl 1 [] := by rw [show natD 0 = digD (dg 0) from rfl, dg_zero]; rfl
        rw [e]
        exact rep_nil 1 σ u h
      refine dwp_loop (α := {j : Nat // j ≤ n ∧ ∀ c, c < j → (A (n * i + c)).1 = (A (n * i + c)).2}) (fun j => St.of [(0, .d (.sl 2 (boxC LA))), (1, .d (.sl 2 (boxC LB))), (5, .d (intD n)), (6, .d (intD i)), (7, .ptr 7 0), (8, .ptr 8 0), (9, .d (intD j.1))] [(7, nmO (offN (amA A n i) i j.1)), (8, nmO (if i < j.1 then amA A n i i else nzero))]) (fun j => n - j.1)
        ⟨0, Nat.zero_le _, fun r h => by omega⟩ (weak_of ?_ ?_ (by simp [refsOk, refIn, T.ref])) (by kernel_rfl) (fun j => ?_)
      · have c0 : ((0 : Nat) : Int) = 0 := rfl
        simp -implicitDefEqProofs only [go_sem, c0, upd]
      · have z : (if i < 0 then amA A n i i else ⟨false, 0, 0⟩) = ⟨false, 0, 0⟩ := if_neg (by omega)
        simp -implicitDefEqProofs only [go_sem, upd, z, offN, nzero]
      obtain ⟨j, hj, hP⟩ := j
      by_cases hjA : j < n
      · have hij : n * i + j < n * n := by
          have : n * i + n ≤ n * n := by rw [← Nat.mul_succ]; exact Nat.mul_le_mul_left _ hiA
          omega
        have h16 : n * n ≤ 16 := Nat.mul_le_mul hn hn
        have eB : decide ((j : Int) < (n : Int)) = true := tD (by omega)
        have w2 : IntKind.i64.wrap ((j : Int) + 1) = ((j + 1 : Nat) : Int) := addN1 (by omega)
        have w3 : IntKind.i64.wrap ((n : Int) * (i : Int)) = ((n * i : Nat) : Int) := by rw [← Int.natCast_mul, w64 (by omega)]
        have w4 : IntKind.i64.wrap (((n * i : Nat) : Int) + (j : Int)) = ((n * i + j : Nat) : Int) := by rw [w64 (by omega)]; omega
        have tk2 := boxC_tq (gA _ hij)
        have q4 : (n * i + j) * 2 < n * n * 2 := by omega
        have q5 : (n * i + j) * 2 + 2 ≤ n * n * 2 := by omega
        have hXb := bA _ (List.mem_of_getElem? (gA _ hij))
        have hmade := made_b E hXb
        have hamo := amount_c E (loN (A (n * i + j)))
        have hamA : nam (loN (A (n * i + j))) = amA A n i j := rfl
        rw [hamA] at hamo
        generalize hX : A (n * i + j) = X at *
        by_cases hx : X.1 = X.2
        · have ex := tV (show ((X.1 : Int) != (X.2 : Int)) = false by rw [neqN]; exact decide_eq_false (fun h => h hx))
          obtain ⟨j', hj'⟩ : ∃ j' : {j : Nat // j ≤ n ∧ ∀ c, c < j → (A (n * i + c)).1 = (A (n * i + c)).2}, j'.1 = j + 1 := ⟨⟨j + 1, hjA, fun c hc => by
            rcases Nat.lt_or_ge c j with g | g
            · exact hP c g
            · obtain rfl : c = j := by omega
              rw [hX]; exact hx⟩, rfl⟩
          simp -implicitDefEqProofs only [go_sem, eB, w3, w4, clA, d2, q4, q5, tk2, ex]
          refine Call.intro hmade ?_
          simp -implicitDefEqProofs only [go_sem]
          refine Call.intro hamo ?_
          by_cases hije : i = j
          · have eij := tB (show ((i : Int) == (j : Int)) = true by simp [hije])
            have o1 : offN (amA A n i) i (j + 1) = offN (amA A n i) i j := by simp only [offN]; rw [if_pos hije]
            have o2 : (if i < j + 1 then amA A n i i else nzero) = amA A n i j := by rw [if_pos (by omega), hije]
            simp -implicitDefEqProofs only [go_sem, eij, w2]
            refine ⟨j', weak_of ?_ ?_ (by simp [refsOk, refIn, T.ref]), by simp only [hj']; omega⟩
            · simp -implicitDefEqProofs only [go_sem, hj']
            · simp -implicitDefEqProofs only [go_sem, hj', o1, o2]
          · have eij := tV (show ((i : Int) == (j : Int)) = false by simp; omega)
            have o1 : offN (amA A n i) i (j + 1) = nsum (offN (amA A n i) i j) (amA A n i j) := by simp only [offN]; rw [if_neg hije]
            have o2 : (if i < j + 1 then amA A n i i else nzero) = (if i < j then amA A n i i else nzero) := by
              by_cases g : i < j
              · rw [if_pos g, if_pos (by omega)]
              · rw [if_neg g, if_neg (by omega)]
            have n1 : NOk (offN (amA A n i) i j) 100000 := ((nr_offN (hnr i) i j).ok (by omega)).mono (by omega)
            have n2 : NOk (amA A n i j) 100000 := ((hnr i j).ok (by omega)).mono (by omega)
            simp -implicitDefEqProofs only [go_sem, eij]
            refine Call.intro (sum_c _ n1 n2 (by omega)) ?_
            rw [← o1]
            simp -implicitDefEqProofs only [go_sem, w2]
            refine ⟨j', weak_of ?_ ?_ (by simp [refsOk, refIn, T.ref]), by simp only [hj']; omega⟩
            · simp -implicitDefEqProofs only [go_sem, hj']
            · simp -implicitDefEqProofs only [go_sem, hj', o2]
        · have ex := tB (show ((X.1 : Int) != (X.2 : Int)) = true by rw [neqN]; exact decide_eq_true hx)
          have hs := no hiA (fun g => hx (by have := g.2.1 j hjA; rw [hX] at this; exact this))
          rw [hs]
          simp -implicitDefEqProofs only [go_sem, eB, w3, w4, clA, d2, q4, q5, tk2, ex, finK]
      · have eB : decide ((j : Int) < (n : Int)) = false := fD (by omega)
        obtain rfl : j = n := by omega
        have nr1 := nr_offN (hnr i) i j
        have nl1 := nr1.lo
        have nl2 := nr1.hi
        have hd : (if i < j then amA A j i i else nzero) = amA A j i i := if_pos hiA
        have w5 : IntKind.i64.wrap ((offN (amA A j i) i j).e + 2) = (offN (amA A j i) i j).e + 2 := w64 (by omega)
        have n1 : NOk (e2N (offN (amA A j i) i j)) 100000 := ((nr_e2N nr1).ok (by omega)).mono (by omega)
        have n2 : NOk (amA A j i i) 100000 := ((hnr i i).ok (by omega)).mono (by omega)
        have hl := less_c E n2 n1 (by omega)
        have hl' : DCall Tryz.prog E 35 [nmD (amA A j i i), .agg [bD (offN (amA A j i) i j).neg, natD (offN (amA A j i) i j).n, intD ((offN (amA A j i) i j).e + 2)]] (.data (bD (nless (amA A j i i) (e2N (offN (amA A j i) i j))))) := hl
        have hs := sign_c E (amA A j i i)
        rw [hd]
        simp -implicitDefEqProofs only [go_sem, eB, w5]
        refine Call.intro hl' ?_
        cases hb1 : nless (amA A j i i) (e2N (offN (amA A j i) i j)) with
        | true =>
          have hs := no hiA (fun g => by have := g.2.2.1; rw [hb1] at this; cases this)
          rw [hs]
          simp -implicitDefEqProofs only [go_sem, finK]
        | false =>
          simp -implicitDefEqProofs only [go_sem]
          refine Call.intro hs ?_
          by_cases h0 : nsign (amA A j i i) = 0
          · have e0 := tB (show (nsign (amA A j i i) == 0) = true by simp [h0])
            have hs := no hiA (fun g => g.2.2.2 h0)
            rw [hs]
            simp -implicitDefEqProofs only [go_sem, e0, finK]
          · have e0 := tV (show (nsign (amA A j i i) == 0) = false by simp [h0])
            obtain ⟨i', hi'⟩ : ∃ i' : {i : Nat // i ≤ j ∧ ∀ r, r < i → RS A B j r}, i'.1 = i + 1 := ⟨⟨i + 1, hiA, fun r hr => by
              rcases Nat.lt_or_ge r i with g | g
              · exact hR r g
              · obtain rfl : r = i := by omega
                exact ⟨hb, hP, hb1, h0⟩⟩, rfl⟩
            simp -implicitDefEqProofs only [go_sem, e0, w1]
            refine ⟨i', weak_of ?_ ?_ rfl, by simp only [hi']; omega⟩
            · simp -implicitDefEqProofs only [go_sem, hi']
            · simp -implicitDefEqProofs only [go_sem]
    · have eb := tB (show (((B i).1 : Int) != ((B i).2 : Int)) = true by rw [neqN]; exact decide_eq_true hb)
      have hs := no hiA (fun g => hb g.1)
      rw [hs]
      simp -implicitDefEqProofs only [go_sem, clB, d2, q1, q2, q3, g1, g2, eb, finK]
  · have eA : decide ((i : Int) < (n : Int)) = false := fD (by omega)
    have hs : sureB A B n = true := by
      exact (sureB_iff A B n).2 fun r hr => hR r (by omega)
    rw [hs]
    simp -implicitDefEqProofs only [go_sem, eA, finK]
end Go.Enc
