/-
  The document's determinant, walked.
  The document's long division and whole root, by their digits.
  The document's quotients and roots of numbers, and the least interval around some numbers, by contract.
  The least interval around some numbers; what two intervals have in common; the interval of a box.
-/
import Derived.Test.YtjlibljfpkmpfaaGreatDoorSv32
import Derived.Test.YtjlibljfpkmpfaaGreatDoorSv23
import Derived.Test.YtjlibljfpkmpfaaGreatDoorSv17
section
set_option linter.unusedSimpArgs false
set_option maxRecDepth 100000
namespace Go.Enc
open Go.Proofs Go.Enc.Dg Go.Enc.Nu Go.RowKit
/-- A row of exact numbers, cell by cell. -/
def rnT (f : Nat → Nm) : Nat → List T
  | 0 => []
  | m + 1 => rnT f m ++ [.d (bD (f m).neg), .d (natD (f m).n), .d (intD (f m).e)]
def rnC (f : Nat → Nm) : Nat → List D
  | 0 => []
  | m + 1 => rnC f m ++ [bD (f m).neg, natD (f m).n, intD (f m).e]
theorem rnT_C (f : Nat → Nm) : ∀ m, rnT f m = (rnC f m).map T.d
  | 0 => rfl
  | m + 1 => by simp only [rnT, rnC, rnT_C f m, List.map_append, List.map_cons, List.map_nil]
theorem rnC_len (f : Nat → Nm) : ∀ m, (rnC f m).length = m * 3
  | 0 => rfl
  | m + 1 => by simp only [rnC, List.length_append, rnC_len f m, List.length_cons, List.length_nil]; omega
theorem rnT_len (f : Nat → Nm) (m : Nat) : (rnT f m).length = m * 3 := by rw [rnT_C, List.length_map, rnC_len]
theorem rnT_kill (k : Nat) (f : Nat → Nm) (m : Nat) : (rnT f m).map (killT k) = rnT f m := by rw [rnT_C, List.map_map]; rfl
theorem rnT_comm (k : Nat) (o : Obj) (ds : List D) (f : Nat → Nm) (m : Nat) : (rnT f m).map (commT k o ds) = rnT f m := by rw [rnT_C, List.map_map]; rfl
theorem rnT_data (f : Nat → Nm) (m : Nat) : asDs (rnT f m) = some (rnC f m) := by rw [rnT_C, asDs_map]
theorem rnT_refs (f : Nat → Nm) (m : Nat) (ks : List Nat) : (rnT f m).all (refIn ks) = true := by rw [rnT_C]; simp [refIn, T.ref]
theorem take_three {α : Type} {l : List α} {i : Nat} {x y z : α} (h1 : l[i]? = some x) (h2 : l[i + 1]? = some y) (h3 : l[i + 2]? = some z) : (l.drop i).take 3 = [x, y, z] := by
  have hl : i + 2 < l.length := by
    rcases Nat.lt_or_ge (i + 2) l.length with h | h
    · exact h
    · rw [List.getElem?_eq_none h] at h3; cases h3
  rw [List.drop_eq_getElem_cons (by omega), List.drop_eq_getElem_cons (by omega), List.drop_eq_getElem_cons hl]
  rw [List.getElem?_eq_getElem (by omega)] at h1 h2
  rw [List.getElem?_eq_getElem hl] at h3
  cases h1; cases h2; cases h3
  rfl
theorem rnC_get (f : Nat → Nm) : ∀ m j, j < m → (rnC f m)[j * 3]? = some (bD (f j).neg) ∧ (rnC f m)[j * 3 + 1]? = some (natD (f j).n) ∧ (rnC f m)[j * 3 + 2]? = some (intD (f j).e)
  | m + 1, j, h => by
    simp only [rnC]
    rcases Nat.lt_or_ge j m with h1 | h1
    · rw [List.getElem?_append_left (by rw [rnC_len]; omega), List.getElem?_append_left (by rw [rnC_len]; omega), List.getElem?_append_left (by rw [rnC_len]; omega)]
      exact rnC_get f m j h1
    · have e : j = m := by omega
      subst e
      rw [List.getElem?_append_right (by rw [rnC_len]; omega), List.getElem?_append_right (by rw [rnC_len]; omega), List.getElem?_append_right (by rw [rnC_len]; omega), rnC_len]
      simp
theorem rnC_take (f : Nat → Nm) {m j : Nat} (h : j < m) : ((rnC f m).drop (j * 3)).take 3 = [bD (f j).neg, natD (f j).n, intD (f j).e] := by
  obtain ⟨h1, h2, h3⟩ := rnC_get f m j h
  exact take_three h1 h2 h3
/-- A matrix' rows. -/
def matC (A : Nat → Nat → Nm) (n r : Nat) : List D := (List.range r).map fun i => .sl 3 (rnC (A i) n)
theorem matC_len (A : Nat → Nat → Nm) (n r : Nat) : (matC A n r).length = r := by simp [matC]
theorem matC_get (A : Nat → Nat → Nm) {n r i : Nat} (h : i < r) : (matC A n r)[i]? = some (.sl 3 (rnC (A i) n)) := by simp [matC, h]
def matT (A : Nat → Nat → Nm) (n r : Nat) : List T := (matC A n r).map T.d
theorem matT_len (A : Nat → Nat → Nm) (n r : Nat) : (matT A n r).length = r := by simp [matT, matC]
theorem matT_kill (k : Nat) (A : Nat → Nat → Nm) (n r : Nat) : (matT A n r).map (killT k) = matT A n r := by unfold matT; rw [List.map_map]; rfl
theorem matT_comm (k : Nat) (o : Obj) (ds : List D) (A : Nat → Nat → Nm) (n r : Nat) : (matT A n r).map (commT k o ds) = matT A n r := by unfold matT; rw [List.map_map]; rfl
theorem matT_data (A : Nat → Nat → Nm) (n r : Nat) : asDs (matT A n r) = some (matC A n r) := by unfold matT; rw [asDs_map]
theorem matT_refs (A : Nat → Nat → Nm) (n r : Nat) (ks : List Nat) : (matT A n r).all (refIn ks) = true := by unfold matT; simp [refIn, T.ref]
theorem matT_succ (A : Nat → Nat → Nm) (n r : Nat) : matT A n r ++ [.d (.sl 3 (rnC (A r) n))] = matT A n (r + 1) := by simp [matT, matC, List.range_succ]
abbrev rowN3 (f : Nat → Nm) (m : Nat) : Obj := ⟨some (70, 3, true), rnT f m⟩
abbrev rowsN3 (A : Nat → Nat → Nm) (n r : Nat) : Obj := ⟨some (86, 1, true), matT A n r⟩
abbrev nmO (a : Nm) : Obj := ⟨none, [.d (bD a.neg), .d (natD a.n), .d (intD a.e)]⟩
/-- A column replaced, or none. -/
def rpN (A : Nat → Nat → Nm) (b : Nat → Nm) (col : Int) : Nat → Nat → Nm := fun i j => if (j : Int) = col then b i else A i j
theorem rpN_none (A : Nat → Nat → Nm) (b : Nat → Nm) : rpN A b (-1) = A := by
  funext i j
  unfold rpN
  rw [if_neg (by omega)]
/-- How many columns but the j-th stand before the k-th. -/
def cntJ (j k : Nat) : Nat := if k ≤ j then k else k - 1
theorem rnT_step (M : Nat → Nat → Nm) {i j k : Nat} (h : k ≠ j) : rnT (mnrN M j i) (cntJ j k) ++ [.d (bD (M (i + 1) k).neg), .d (natD (M (i + 1) k).n), .d (intD (M (i + 1) k).e)] = rnT (mnrN M j i) (cntJ j (k + 1)) := by
  have e : cntJ j (k + 1) = cntJ j k + 1 := by unfold cntJ; split <;> split <;> omega
  have g : mnrN M j i (cntJ j k) = M (i + 1) k := by
    unfold mnrN cntJ
    split
    · rw [if_pos (by omega)]
    · rw [if_neg (by omega)]
      congr 1
      omega
  rw [e]
  simp only [rnT, g]
theorem cntJ_skip (j : Nat) : cntJ j (j + 1) = cntJ j j := by unfold cntJ; rw [if_neg (by omega), if_pos (by omega)]; omega
set_option maxHeartbeats 8000000 in
theorem det_c (E : Nat → Option Value) : ∀ (n : Nat), n ≤ 4 → ∀ (A : Nat → Nat → Nm) (b : Nat → Nm) (bd : D) (col : Int), (col = -1 ∨ (bd = .sl 3 (rnC b n) ∧ 0 ≤ col ∧ col < n)) → (∀ i j, i < n → j < n → Nr (rpN A b col i j) 220 100) →
    DCall Tryz.prog E 141 [.sl 1 (matC A n n), bd, intD col] (.data (nmD (detN n (rpN A b col))))
  | 0, _, A, b, bd, col, _, _ => by
    refine dcall_of Tryz.func141 rfl (by kernel_rfl) Tryz.ntmps141 (by kernel_rfl) (by simp) (rs := [.cell 6 70]) rfl ?_
    rintro ⟨P, E, σ0, w0, base, n, kb, df, G0⟩ rfl rfl rfl rfl
    have ml : (matC A 0 0).length = 0 := rfl
    have hz : detN 0 (rpN A b col) = ⟨false, 1, 0⟩ := rfl
    have h00 := tB (show ((0 : Int) == 0) = true from rfl)
    have c0 : ((0 : Nat) : Int) = 0 := rfl
    rw [hz]
    simp -implicitDefEqProofs only [go_sem, ml, c0, h00, Nat.zero_div]
    refine Call.intro (nat_c _ 1 (by decide)) ?_
    simp -implicitDefEqProofs only [go_sem]
  | n + 1, hn, A, b, bd, col, hb, hM => by
    obtain ⟨M, hMe⟩ : ∃ M, rpN A b col = M := ⟨_, rfl⟩
    rw [hMe] at hM ⊢
    obtain ⟨m, hm⟩ : ∃ m, n + 1 = m := ⟨_, rfl⟩
    have hn4 : m ≤ 4 := by omega
    rw [hm] at hb hM ⊢
    have ml : (matC A m m).length = m := matC_len A m m
    have m0 : (matC A m m)[0]? = some (.sl 3 (rnC (A 0) m)) := matC_get A (by omega)
    have rl : ∀ f : Nat → Nm, (rnC f m).length = m * 3 := fun f => rnC_len f m
    have hbd : ∀ j : Nat, (j : Int) = col → bd = .sl 3 (rnC b m) := fun j hj => by
      rcases hb with h | h
      · omega
      · exact h.1
    have hMr : ∀ i j : Nat, (j : Int) = col → b i = M i j := fun i j h => by rw [← hMe]; unfold rpN; rw [if_pos h]
    have hMa : ∀ i j : Nat, (j : Int) ≠ col → A i j = M i j := fun i j h => by rw [← hMe]; unfold rpN; rw [if_neg h]
    obtain ⟨f, hf⟩ : ∃ f : Nat → Nm, (fun j => detT (M 0 j) (detN n (mnrN M j)) j) = f := ⟨_, rfl⟩
    have hdet : detN m M = smN f m := by rw [← hm, ← hf]; rfl
    rw [hdet]
    have hmax : maxLen = 9223372036854775807 := by decide
    have mm0 := tV (show ((m : Int) == 0) = false by simp; omega)
    refine dcall_of Tryz.func141 rfl (by kernel_rfl) Tryz.ntmps141 (by kernel_rfl) (by simp) (rs := [.cell 6 70]) rfl ?_
    rintro ⟨P, E, σ0, w0, base, n, kb, df, G0⟩ rfl rfl rfl rfl
    simp -implicitDefEqProofs only [go_sem, ml, mm0, Nat.div_one]
    rw [stop_eq]
    refine dwp_cell 8 1 (natD 0) rfl rfl (fun σ u h => ?_) ?_
    · have e : natD 0 = .sl 1 [] := by rw [show natD 0 = digD (dg 0) from rfl, dg_zero]; rfl
      rw [e]
      exact rep_nil 1 σ u h
    refine dwp_loop (α := {j : Nat // j ≤ m}) (fun j => St.of [(0, .d (.sl 1 (matC A m m))), (1, .d bd), (2, .d (intD col)), (6, .ptr 6 0), (7, .d (intD m)), (8, .ptr 8 0), (9, .d (intD j.1))] [(6, ⟨none, [.d (bD false), .d (.v (.slice none 0 0)), .d (intD 0)]⟩), (8, nmO (smN f j.1))]) (fun j => m - j.1)
      ⟨0, Nat.zero_le _⟩ (weak_of ?_ ?_ (by simp [refsOk, refIn, T.ref])) (by kernel_rfl) (fun j => ?_)
    · have c0 : ((0 : Nat) : Int) = 0 := rfl
      simp -implicitDefEqProofs only [go_sem, c0, upd]
    · simp -implicitDefEqProofs only [go_sem, upd, smN, nzero]
    obtain ⟨j, hj⟩ := j
    by_cases hA : j < m
    · have eA : decide ((j : Int) < (m : Int)) = true := tD (by omega)
      have w1 : IntKind.i64.wrap ((j : Int) + 1) = ((j + 1 : Nat) : Int) := addN1 (by omega)
      obtain ⟨j', hj'⟩ : ∃ j' : {j : Nat // j ≤ m}, j'.1 = j + 1 := ⟨⟨j + 1, hA⟩, rfl⟩
      have q0 : 0 < m := by omega
      have q1 : j * 3 < m * 3 := by omega
      have q2 : j * 3 + 3 ≤ m * 3 := by omega
      have tk := rnC_take (A 0) hA
      have d3 : m * 3 / 3 = m := by omega
      have hd1 := det_c E n (by omega) (mnrN M j) b (.v (.slice none 0 0)) (-1) (.inl rfl) (fun i k hi hk => by
        rw [rpN_none]
        unfold mnrN
        exact hM _ _ (by omega) (by split <;> omega))
      rw [rpN_none] at hd1
      have tkb := rnC_take b (show 0 < m by omega)
      have zz : (0 : Nat) * 3 = 0 := rfl
      have col_c : ((j : Int) = col ∧ bd = .sl 3 (rnC b m)) ∨ ((j : Int) ≠ col) := by
        by_cases h : (j : Int) = col
        · exact .inl ⟨h, hbd j h⟩
        · exact .inr h
      rcases col_c with ⟨hcol, hbe⟩ | hcol
      case' inl =>
        have ec := tB (show ((j : Int) == col) = true by simp [hcol])
        have e10 := hMr 0 j hcol
        have q3 : 0 < m * 3 := by omega
        have q4 : 0 + 3 ≤ m * 3 := by omega
        have tkb' : (rnC b m).take 3 = [bD (b 0).neg, natD (b 0).n, intD (b 0).e] := by have := tkb; rw [zz, List.drop_zero] at this; exact this
        rw [hbe]
        simp -implicitDefEqProofs only [go_sem, eA, ml, m0, rl, q0, q1, q2, q3, q4, tk, d3, Nat.div_one, ec, tkb', e10]
        rw [← hbe, stop_eq]
      case' inr =>
        have ec := tV (show ((j : Int) == col) = false by simp [hcol])
        have e10 := hMa 0 j hcol
        simp -implicitDefEqProofs only [go_sem, eA, ml, m0, rl, q0, q1, q2, tk, d3, Nat.div_one, ec, e10]
        rw [stop_eq]
      all_goals
        refine dwp_nil 11 76 86 1 rfl rfl ?_
        refine dwp_loop (α := {i : Nat // i ≤ n}) (fun i => St.of [(0, .d (.sl 1 (matC A m m))), (1, .d bd), (2, .d (intD col)), (6, .ptr 6 0), (7, .d (intD m)), (8, .ptr 8 0), (9, .d (intD j)), (10, .ptr 10 0), (11, .gs 76), (12, .d (intD ((i.1 + 1 : Nat) : Int)))]
            [(6, ⟨none, [.d (bD false), .d (.v (.slice none 0 0)), .d (intD 0)]⟩), (8, nmO (smN f j)), (10, nmO (M 0 j)), (76, rowsN3 (mnrN M j) n i.1)]) (fun i => n - i.1)
          ⟨0, Nat.zero_le _⟩ (weak_of ?_ ?_ (by simp [refsOk, matT_refs, refIn, T.ref])) (by kernel_rfl) (fun i => ?_)
        · have c1 : ((0 + 1 : Nat) : Int) = 1 := rfl
          simp -implicitDefEqProofs only [go_sem, c1, upd]
        · simp -implicitDefEqProofs only [go_sem, upd]
          rfl
        obtain ⟨i, hi⟩ := i
        by_cases hB : i < n
        · have eB : decide (((i + 1 : Nat) : Int) < (m : Int)) = true := tD (by omega)
          have w2 : IntKind.i64.wrap (((i + 1 : Nat) : Int) + 1) = ((i + 1 + 1 : Nat) : Int) := addN1 (by omega)
          obtain ⟨i', hi'⟩ : ∃ i' : {i : Nat // i ≤ n}, i'.1 = i + 1 := ⟨⟨i + 1, hB⟩, rfl⟩
          simp -implicitDefEqProofs only [go_sem, eB]
          rw [stop_eq]
          refine dwp_nil 13 72 70 3 rfl rfl ?_
          refine dwp_loop_l (α := {k : Nat // k ≤ m}) (fun k => St.of [(0, .d (.sl 1 (matC A m m))), (1, .d bd), (2, .d (intD col)), (6, .ptr 6 0), (7, .d (intD m)), (8, .ptr 8 0), (9, .d (intD j)), (10, .ptr 10 0), (11, .gs 76), (12, .d (intD ((i + 1 : Nat) : Int))), (13, .gs 72), (14, .d (intD k.1))]
              [(6, ⟨none, [.d (bD false), .d (.v (.slice none 0 0)), .d (intD 0)]⟩), (8, nmO (smN f j)), (10, nmO (M 0 j)), (72, rowN3 (mnrN M j i) (cntJ j k.1)), (76, rowsN3 (mnrN M j) n i)]) (fun k => m - k.1)
            ⟨0, Nat.zero_le _⟩ (leads_weak (weak_of ?_ ?_ (by simp [refsOk, matT_refs, rnT_refs, refIn, T.ref]))) (fun k => ?_)
          · have c0 : ((0 : Nat) : Int) = 0 := rfl
            simp -implicitDefEqProofs only [go_sem, c0, upd]
          · have cz : cntJ j 0 = 0 := by unfold cntJ; rw [if_pos (Nat.zero_le _)]
            simp -implicitDefEqProofs only [go_sem, upd, cz]
            rfl
          obtain ⟨k, hk⟩ := k
          by_cases hC : k < m
          · refine dwp_of (by kernel_rfl) ?_
            have eC : decide ((k : Int) < (m : Int)) = true := tD (by omega)
            have w3 : IntKind.i64.wrap ((k : Int) + 1) = ((k + 1 : Nat) : Int) := addN1 (by omega)
            obtain ⟨k', hk'⟩ : ∃ k' : {k : Nat // k ≤ m}, k'.1 = k + 1 := ⟨⟨k + 1, hC⟩, rfl⟩
            have m1 := matC_get A (n := m) (r := m) (i := i + 1) (by omega)
            have q3 : i + 1 < m := by omega
            have q4 : i + 1 + 1 ≤ m := by omega
            have q5 : k * 3 < m * 3 := by omega
            have q6 : k * 3 + 3 ≤ m * 3 := by omega
            have q7 : (i + 1) * 3 < m * 3 := by omega
            have q8 : (i + 1) * 3 + 3 ≤ m * 3 := by omega
            have tk2 := rnC_take (A (i + 1)) hC
            have tk3 := rnC_take b q3
            have tl : (rnT (mnrN M j i) (cntJ j k)).length = cntJ j k * 3 := rnT_len _ _
            have a1 : (cntJ j k * 3 + 3) / 3 = cntJ j k + 1 := by omega
            have cj : cntJ j k ≤ 4 := by unfold cntJ; split <;> omega
            by_cases hkc : (k : Int) = col
            · by_cases hkj : k = j
              · have ek := tB (show ((k : Int) == col) = true by simp [hkc])
                have e15 := hMr (i + 1) k hkc
                have hbe := hbd k hkc
                have ej := tV (show ((k : Int) != (j : Int)) = false by simp [hkj])
                have ct : cntJ j (k + 1) = cntJ j k := by rw [hkj]; exact cntJ_skip j
                simp -implicitDefEqProofs only [go_sem, eC, ml, m1, rl, q3, q4, q5, q6, tk2, d3, w3, Nat.div_one, ek, hbe, q7, q8, tk3, e15, ej]
                refine ⟨k', leads_weak (weak_of ?_ ?_ (by simp [refsOk, matT_refs, rnT_refs, refIn, T.ref])), by simp only [hk']; omega⟩
                · simp -implicitDefEqProofs only [go_sem, hk', ct, hbe]
                · simp -implicitDefEqProofs only [go_sem, hk', ct, hbe]
              · have ek := tB (show ((k : Int) == col) = true by simp [hkc])
                have e15 := hMr (i + 1) k hkc
                have hbe := hbd k hkc
                have ej := tB (show ((k : Int) != (j : Int)) = true by simp; omega)
                have st := rnT_step M (i := i) hkj
                simp -implicitDefEqProofs only [go_sem, eC, ml, m1, rl, q3, q4, q5, q6, tk2, d3, w3, Nat.div_one, ek, hbe, q7, q8, tk3, e15, ej, tl, a1, st, rnT_kill, matT_kill]
                refine ⟨by omega, by omega, k', leads_weak (weak_of ?_ ?_ (by simp [refsOk, matT_refs, rnT_refs, refIn, T.ref])), by simp only [hk']; omega⟩
                · simp -implicitDefEqProofs only [go_sem, hk', st, rnT_kill, matT_kill, hbe]
                · simp -implicitDefEqProofs only [go_sem, hk', st, rnT_kill, matT_kill, hbe]
            · by_cases hkj : k = j
              · have ek := tV (show ((k : Int) == col) = false by simp [hkc])
                have e15 := hMa (i + 1) k hkc
                have ej := tV (show ((k : Int) != (j : Int)) = false by simp [hkj])
                have ct : cntJ j (k + 1) = cntJ j k := by rw [hkj]; exact cntJ_skip j
                simp -implicitDefEqProofs only [go_sem, eC, ml, m1, rl, q3, q4, q5, q6, tk2, d3, w3, Nat.div_one, ek, e15, ej]
                refine ⟨k', leads_weak (weak_of ?_ ?_ (by simp [refsOk, matT_refs, rnT_refs, refIn, T.ref])), by simp only [hk']; omega⟩
                · simp -implicitDefEqProofs only [go_sem, hk', ct]
                · simp -implicitDefEqProofs only [go_sem, hk', ct]
              · have ek := tV (show ((k : Int) == col) = false by simp [hkc])
                have e15 := hMa (i + 1) k hkc
                have ej := tB (show ((k : Int) != (j : Int)) = true by simp; omega)
                have st := rnT_step M (i := i) hkj
                simp -implicitDefEqProofs only [go_sem, eC, ml, m1, rl, q3, q4, q5, q6, tk2, d3, w3, Nat.div_one, ek, e15, ej, tl, a1, st, rnT_kill, matT_kill]
                refine ⟨by omega, by omega, k', leads_weak (weak_of ?_ ?_ (by simp [refsOk, matT_refs, rnT_refs, refIn, T.ref])), by simp only [hk']; omega⟩
                · simp -implicitDefEqProofs only [go_sem, hk', st, rnT_kill, matT_kill]
                · simp -implicitDefEqProofs only [go_sem, hk', st, rnT_kill, matT_kill]
          · obtain rfl : k = m := by omega
            have eC : decide ((k : Int) < (k : Int)) = false := fD (by omega)
            have cn : cntJ j k = n := by unfold cntJ; rw [if_neg (by omega)]; omega
            rw [cn]
            refine dwp_leads (leads_comm 72 rfl (rnT_data _ _)) ?_
            refine dwp_of (by kernel_rfl) ?_
            have tl : (matT (mnrN M j) n i).length = i := matT_len _ _ _
            have ms := matT_succ (mnrN M j) n i
            simp -implicitDefEqProofs only [go_sem, eC, tl, ms, matT_comm, matT_kill, rnT_comm, rnT_kill, Nat.div_one, w2]
            refine ⟨by omega, by omega, i', weak_of ?_ ?_ (by simp [refsOk, matT_refs, refIn, T.ref]), by simp only [hi']; omega⟩
            · simp -implicitDefEqProofs only [go_sem, hi']
            · simp -implicitDefEqProofs only [go_sem, hi', ms, matT_comm, matT_kill]
        · obtain rfl : i = n := by omega
          have eB : decide (((i + 1 : Nat) : Int) < (m : Int)) = false := fD (by omega)
          have o1 : NOk (M 0 j) 20000 := ((hM 0 j (by omega) hA).ok (by omega)).mono (by omega)
          have dd := Nr.det (n := i) (m := mnrN M j) (fun i' k hi' hk' => by
            unfold mnrN
            exact hM _ _ (by omega) (by split <;> omega))
          have kk := dK_le (n := i) (by omega)
          have o2 : NOk (detN i (mnrN M j)) 20000 := (dd.ok (by omega)).mono (by omega)
          have o3 : ∀ j, j < m → Nr (f j) 10220 500 := fun j hj => by
            rw [← hf]
            have dd := Nr.det (n := i) (m := mnrN M j) (fun i' k hi' hk' => by
              unfold mnrN
              exact hM _ _ (by omega) (by split <;> omega))
            exact ((hM 0 j (by omega) hj).detT dd (j := j)).mono (by omega) (by omega)
          have o4 : NOk (smN f j) 20000 := ((Nr.sm (f := f) (m := j) (fun x hx => o3 x (by omega))).ok (by omega)).mono (by omega)
          have o5 : NOk (f j) 20000 := ((o3 j hA).ok (by omega)).mono (by omega)
          have ef : f j = detT (M 0 j) (detN i (mnrN M j)) j := by rw [← hf]
          simp -implicitDefEqProofs only [go_sem, eB, matT_data]
          refine Call.intro hd1 ?_
          simp -implicitDefEqProofs only [go_sem]
          refine Call.intro (product_c _ o1 o2 (by omega)) ?_
          have sm1 : smN f (j + 1) = nsum (smN f j) (f j) := rfl
          have rm : ((j : Int).tmod 2) = ((j % 2 : Nat) : Int) := by rw [Int.tmod_eq_emod_of_nonneg (by omega)]; omega
          by_cases hp : j % 2 = 1
          · have er := tB (show (((j % 2 : Nat) : Int) == 1) = true by rw [hp]; rfl)
            have ef' : nneg (nprod (M 0 j) (detN i (mnrN M j))) = f j := by rw [ef]; unfold detT; rw [if_pos hp]
            simp -implicitDefEqProofs only [go_sem, rm, er]
            refine Call.intro (negated_c _ _) ?_
            rw [ef']
            simp -implicitDefEqProofs only [go_sem]
            refine Call.intro (sum_c _ o4 o5 (by omega)) ?_
            rw [← sm1]
            simp -implicitDefEqProofs only [go_sem, w1]
            refine ⟨j', weak_of ?_ ?_ (by simp [refsOk, refIn, T.ref]), by simp only [hj']; omega⟩
            · simp -implicitDefEqProofs only [go_sem, hj']
            · simp -implicitDefEqProofs only [go_sem, hj', matT_comm, matT_kill]
          · have er := tV (show (((j % 2 : Nat) : Int) == 1) = false by simp; omega)
            have ef' : nprod (M 0 j) (detN i (mnrN M j)) = f j := by rw [ef]; unfold detT; rw [if_neg hp]
            rw [ef']
            simp -implicitDefEqProofs only [go_sem, rm, er]
            refine Call.intro (sum_c _ o4 o5 (by omega)) ?_
            rw [← sm1]
            simp -implicitDefEqProofs only [go_sem, w1]
            refine ⟨j', weak_of ?_ ?_ (by simp [refsOk, refIn, T.ref]), by simp only [hj']; omega⟩
            · simp -implicitDefEqProofs only [go_sem, hj']
            · simp -implicitDefEqProofs only [go_sem, hj', matT_comm, matT_kill]
    · have eA : decide ((j : Int) < (m : Int)) = false := fD (by omega)
      obtain rfl : j = m := by omega
      simp -implicitDefEqProofs only [go_sem, eA]
end Go.Enc
end
section
set_option linter.unusedSimpArgs false
set_option maxRecDepth 100000
namespace Go.Enc
open Go.Proofs Go.Enc.Dg Go.Enc.Nu
theorem sq_ge (x : Nat) : x ≤ x * x := by
  rcases Nat.eq_zero_or_pos x with h | h
  · omega
  · exact Nat.le_mul_of_pos_left x h
structure RInv (a k x : Nat) : Prop where
  lo : x * x ≤ a
  hi : a < (x + 2 ^ k) * (x + 2 ^ k)
end Go.Enc
end
section
set_option linter.unusedSimpArgs false
set_option maxRecDepth 100000
namespace Go.Enc
open Go.Proofs Go.Enc.Dg Go.Enc.Nu
end Go.Enc
end
section
set_option linter.unusedSimpArgs false
set_option maxRecDepth 100000
namespace Go.Enc
open Go.Proofs Go.Enc.Dg Go.Enc.Nu
theorem made_k (E : Nat → Option Value) {x r : Nat × Nat} {n : Int} {a b : Nm} {p1 p2 : Bool} (hm : DCall Tryz.prog E 15 [boxD x] (.data (.tup [boxD r, intD n]))) (ha : DCall Tryz.prog E 34 [.v (.int .u64 r.1)] (.data (.tup [nmD a, bD p1])))
    (hb : DCall Tryz.prog E 34 [.v (.int .u64 r.2)] (.data (.tup [nmD b, bD p2]))) : DCall Tryz.prog E 46 [boxD x] (.data (nvD a b)) := by
  refine dcall_of Tryz.func46 rfl (by kernel_rfl) Tryz.ntmps46 (by kernel_rfl) (by simp) (rs := [.cell 2 81]) rfl ?_
  rintro ⟨P, E, σ0, w0, base, n, kb, df, G0⟩ rfl rfl rfl rfl
  simp -implicitDefEqProofs only [go_sem]
  refine Call.intro hm ?_
  simp -implicitDefEqProofs only [go_sem]
  refine Call.intro ha ?_
  simp -implicitDefEqProofs only [go_sem]
  refine Call.intro hb ?_
  simp -implicitDefEqProofs only [go_sem]
/-- The bits of a box's interval. -/
abbrev mk2 (x : Nat × Nat) : Nat × Nat := (makeB x.1 x.2).1
/-- The interval of a box: its numbers. -/
theorem made_c (E : Nat → Option Value) {x : Nat × Nat} (h1 : x.1 < 18446744073709551616) (h2 : x.2 < 18446744073709551616) (g1 : (mk2 x).1 < 18446744073709551616) (g2 : (mk2 x).2 < 18446744073709551616) :
    DCall Tryz.prog E 46 [boxD x] (.data (nvD (nplain (mk2 x).1).1 (nplain (mk2 x).2).1)) :=
  made_k E (make_c E h1 h2) (plainr_c E g1) (plainr_c E g2)
/-- The four numbers' list. -/
def four (a b c d : Nm) : Nat → Nm
  | 0 => a
  | 1 => b
  | 2 => c
  | _ => d
end Go.Enc
end
