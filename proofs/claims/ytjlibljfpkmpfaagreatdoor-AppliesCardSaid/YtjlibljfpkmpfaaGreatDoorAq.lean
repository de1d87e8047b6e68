/-
  Apply answers as the document says: a step of kind 3 answers true.
-/
import Derived.Test.YtjlibljfpkmpfaaGreatDoorAp
set_option linter.unusedSimpArgs false
set_option maxRecDepth 100000
namespace Go.Enc
open Go.Proofs Go.Enc.Dg Go.Enc.Nu Go.Enc.Fl

theorem papply_k (E : Nat → Option Value) {nm : ByteArray} {x y a b r : Nat × Nat} {e : D} {n : Int} {s : ByteArray} (h1 : DCall Tryz.prog E 37 [boxD x] (.data (ivD a))) (h2 : DCall Tryz.prog E 37 [boxD y] (.data (ivD b)))
    (h3 : DCall Tryz.prog E 57 [strD nm, ivD a, ivD b] (.data (.tup [ivD r, e]))) (h4 : DCall Tryz.prog E 32 [e] (.data (.tup [intD n, strD s]))) :
    DCall Tryz.prog E 19 [strD nm, boxD x, boxD y] (.data (.tup [boxD r, intD n, strD s])) := by
  refine dcall_of Tryz.func19 rfl (by kernel_rfl) Tryz.ntmps19 (by kernel_rfl) (by simp) (rs := [.cell 6 32, .tmp 7, .tmp 8]) rfl ?_
  rintro ⟨P, E, σ0, w0, base, n, kb⟩ rfl rfl rfl rfl
  simp -implicitDefEqProofs only [go_sem, Int.reduceEq, ↓reduceIte, Nat.reduceEqDiff, Nat.reduceAdd, Nat.reduceMul, Nat.reduceSub, Nat.reduceDiv, Nat.reduceLeDiff, Nat.reduceLT, Nat.reduceBEq, Nat.reduceBNe, reduceCtorEq, Int.reduceLE, Int.reduceLT, Int.reduceToNat, decide_true, decide_false]
  refine drawn_intro (by kernel_rfl) (by kernel_rfl) (by kernel_rfl) ?_
  simp -implicitDefEqProofs only [go_sem, Int.reduceEq, ↓reduceIte, Nat.reduceEqDiff, Nat.reduceAdd, Nat.reduceMul, Nat.reduceSub, Nat.reduceDiv, Nat.reduceLeDiff, Nat.reduceLT, Nat.reduceBEq, Nat.reduceBNe, reduceCtorEq, Int.reduceLE, Int.reduceLT, Int.reduceToNat, decide_true, decide_false]
  refine Call.intro h1 ?_
  simp -implicitDefEqProofs only [go_sem, Int.reduceEq, ↓reduceIte, Nat.reduceEqDiff, Nat.reduceAdd, Nat.reduceMul, Nat.reduceSub, Nat.reduceDiv, Nat.reduceLeDiff, Nat.reduceLT, Nat.reduceBEq, Nat.reduceBNe, reduceCtorEq, Int.reduceLE, Int.reduceLT, Int.reduceToNat, decide_true, decide_false]
  refine Call.intro h2 ?_
  simp -implicitDefEqProofs only [go_sem, Int.reduceEq, ↓reduceIte, Nat.reduceEqDiff, Nat.reduceAdd, Nat.reduceMul, Nat.reduceSub, Nat.reduceDiv, Nat.reduceLeDiff, Nat.reduceLT, Nat.reduceBEq, Nat.reduceBNe, reduceCtorEq, Int.reduceLE, Int.reduceLT, Int.reduceToNat, decide_true, decide_false]
  refine Call.intro h3 ?_
  simp -implicitDefEqProofs only [go_sem, Int.reduceEq, ↓reduceIte, Nat.reduceEqDiff, Nat.reduceAdd, Nat.reduceMul, Nat.reduceSub, Nat.reduceDiv, Nat.reduceLeDiff, Nat.reduceLT, Nat.reduceBEq, Nat.reduceBNe, reduceCtorEq, Int.reduceLE, Int.reduceLT, Int.reduceToNat, decide_true, decide_false]
  refine Call.intro h4 ?_
  simp -implicitDefEqProofs only [go_sem, Int.reduceEq, ↓reduceIte, Nat.reduceEqDiff, Nat.reduceAdd, Nat.reduceMul, Nat.reduceSub, Nat.reduceDiv, Nat.reduceLeDiff, Nat.reduceLT, Nat.reduceBEq, Nat.reduceBNe, reduceCtorEq, Int.reduceLE, Int.reduceLT, Int.reduceToNat, decide_true, decide_false]
  refine Call.intro (pbox_c _ r) ?_
  simp -implicitDefEqProofs only [go_sem, Int.reduceEq, ↓reduceIte, Nat.reduceEqDiff, Nat.reduceAdd, Nat.reduceMul, Nat.reduceSub, Nat.reduceDiv, Nat.reduceLeDiff, Nat.reduceLT, Nat.reduceBEq, Nat.reduceBNe, reduceCtorEq, Int.reduceLE, Int.reduceLT, Int.reduceToNat, decide_true, decide_false]
  refine fin_many ?_
  simp -implicitDefEqProofs only [go_sem, Int.reduceEq, ↓reduceIte, Nat.reduceEqDiff, Nat.reduceAdd, Nat.reduceMul, Nat.reduceSub, Nat.reduceDiv, Nat.reduceLeDiff, Nat.reduceLT, Nat.reduceBEq, Nat.reduceBNe, reduceCtorEq, Int.reduceLE, Int.reduceLT, Int.reduceToNat, decide_true, decide_false]
section
variable {E : Nat → Option Value} {q : Nat → Addr} {x y : Nat × Nat} {u : Value}
/-- The document's operation on two boxes. -/
theorem refop (E : Nat → Option Value) (k : Int) (x1 : x.1 < 18446744073709551616) (x2 : x.2 < 18446744073709551616) (y1 : y.1 < 18446744073709551616) (y2 : y.2 < 18446744073709551616) :
    DCall Tryz.prog E 18 [intD k, boxD x, boxD y] (.data (ansD (refB k (nm (mk2 x).1) (nm (mk2 x).2) (nm (mk2 y).1) (nm (mk2 y).2)))) := by
  have g := mk2_gd x1 x2
  have g' := mk2_gd y1 y2
  have hz : holds0B (nm (mk2 y).1) (nm (mk2 y).2) = false → (nm (mk2 y).1).n ≠ 0 ∧ (nm (mk2 y).2).n ≠ 0 := fun hz => by
    have h0 := holds0_idx g'
    rw [hz] at h0
    have hle := g'.le
    have : ¬ (idx (mk2 y).1 ≤ 0 ∧ 0 ≤ idx (mk2 y).2) := fun k => by rw [decide_eq_true k.1, decide_eq_true k.2] at h0; cases h0
    exact ⟨n_zero g'.l1 g'.p1 (by omega), n_zero g'.l2 g'.p2 (by omega)⟩
  exact rop_c E k (made_c E x1 x2 g.l1 g.l2) (made_c E y1 y2 g'.l1 g'.l2) (nplain_nt _) (nplain_nt _) (nplain_nt _) (nplain_nt _) hz
def SameA (E : Nat → Option Value) (s : ByteArray) (x y : Nat × Nat) : Prop := ∃ r n t, DCall Tryz.prog E 19 [strD s, boxD x, boxD y] (.data (.tup [boxD r, intD n, strD t])) ∧ DCall Tryz.prog E 20 [strD s, boxD x, boxD y] (.data (.tup [boxD r, intD n, strD t]))
theorem apply_hit (hq : Sent E q) (hE : E 9 = some u) (x1 : x.1 < 18446744073709551616) (x2 : x.2 < 18446744073709551616) (y1 : y.1 < 18446744073709551616) (y2 : y.2 < 18446744073709551616)
    {s : ByteArray} {i k : Nat} (hi : i < 6) (hk1 : 1 ≤ k) (hk : k < 7) (d1 : ∀ j, j < i → tabN j ≠ s) (e1 : tabN i = s) (d2 : ∀ j, 1 ≤ j → j < k → refN j ≠ s) (e2 : refN k = s) (hs : SameI E (tabF i) (k : Int) (mk2 x) (mk2 y)) : SameA E s x y := by
  obtain ⟨r, e, n, t, h1, h2, h3⟩ := hs
  have R := refop (x := x) (y := y) E (k : Int) x1 x2 y1 y2
  rw [h3] at R
  exact ⟨r, n, t, papply_k E (pmade_c hq x1 x2) (pmade_c hq y1 y2) (iapply_c hE hi d1 e1 h1) h2, rapply_c hk1 hk d2 e2 R⟩
theorem apply_same (hq : Sent E q) (hE : E 9 = some u) (s : ByteArray) (x1 : x.1 < 18446744073709551616) (x2 : x.2 < 18446744073709551616) (y1 : y.1 < 18446744073709551616) (y2 : y.2 < 18446744073709551616) : SameA E s x y := by
  have g := mk2_gd x1 x2
  have g' := mk2_gd y1 y2
  have sp : ∀ {j n : Nat} {P : Nat → Prop}, j < n → (∀ j, j < n → P j) → P j := fun h f => f _ h
  have D : ∀ i, i < 6 → ∀ j, j < i → tabN j ≠ tabN i := by decide
  have D' : ∀ k, k < 7 → ∀ j, j < k → 1 ≤ j → refN j ≠ refN k := by decide
  by_cases h0 : s = tabN 0
  · subst h0
    exact apply_hit hq hE x1 x2 y1 y2 (i := 0) (k := 3) (by omega) (by omega) (by omega) (D 0 (by omega)) rfl (fun j a b => D' 3 (by omega) j b a) rfl (sameI3 hq g g')
  by_cases h1 : s = tabN 1
  · subst h1
    exact apply_hit hq hE x1 x2 y1 y2 (i := 1) (k := 4) (by omega) (by omega) (by omega) (D 1 (by omega)) rfl (fun j a b => D' 4 (by omega) j b a) rfl (sameI4 hq g g')
  by_cases h2 : s = tabN 2
  · subst h2
    exact apply_hit hq hE x1 x2 y1 y2 (i := 2) (k := 5) (by omega) (by omega) (by omega) (D 2 (by omega)) rfl (fun j a b => D' 5 (by omega) j b a) rfl (sameI5 hq g g')
  by_cases h3 : s = tabN 3
  · subst h3
    exact apply_hit hq hE x1 x2 y1 y2 (i := 3) (k := 6) (by omega) (by omega) (by omega) (D 3 (by omega)) rfl (fun j a b => D' 6 (by omega) j b a) rfl (sameI6 hq g g')
  by_cases h4 : s = tabN 4
  · subst h4
    exact apply_hit hq hE x1 x2 y1 y2 (i := 4) (k := 2) (by omega) (by omega) (by omega) (D 4 (by omega)) rfl (fun j a b => D' 2 (by omega) j b a) rfl (sameI2 hq g g')
  by_cases h5 : s = tabN 5
  · subst h5
    obtain ⟨r, hr, e⟩ := sameH (E := E) g g'
    exact apply_hit hq hE x1 x2 y1 y2 (i := 5) (k := 1) (by omega) (by omega) (by omega) (D 5 (by omega)) rfl (fun j a b => D' 1 (by omega) j b a) rfl ⟨r, .v .nilIface, 0, _, htab_c E hr, code_nil E, e⟩
  have n1 : ∀ j, j < 6 → tabN j ≠ s := fun j hj => by
    have : j = 0 ∨ j = 1 ∨ j = 2 ∨ j = 3 ∨ j = 4 ∨ j = 5 := by omega
    rcases this with rfl | rfl | rfl | rfl | rfl | rfl
    · exact fun e => h0 e.symm
    · exact fun e => h1 e.symm
    · exact fun e => h2 e.symm
    · exact fun e => h3 e.symm
    · exact fun e => h4 e.symm
    · exact fun e => h5 e.symm
  have n2 : ∀ j, 1 ≤ j → j < 7 → refN j ≠ s := fun j hj hj' => by
    have : j = 1 ∨ j = 2 ∨ j = 3 ∨ j = 4 ∨ j = 5 ∨ j = 6 := by omega
    rcases this with rfl | rfl | rfl | rfl | rfl | rfl
    · exact n1 5 (by omega)
    · exact n1 4 (by omega)
    · exact n1 0 (by omega)
    · exact n1 1 (by omega)
    · exact n1 2 (by omega)
    · exact n1 3 (by omega)
  exact ⟨(0, 0), 7, s, papply_k E (pmade_c hq x1 x2) (pmade_c hq y1 y2) (iapply_n hq hE n1) (code_op hq (i := 6) (by decide) s), rapply_n n2⟩
theorem plays_apply (hq : Sent E q) (hE : E 9 = some u) {o : OpD} (hw : o.Wf) (hk : o.kind = 3) : DCall Tryz.prog E 12 [opD o] (.data (bD true)) := by
  obtain ⟨r, n, s, h1, h2⟩ := apply_same (x := (o.xl, o.xh)) (y := (o.yl, o.yh)) hq hE o.s hw.xl hw.xh hw.yl hw.yh
  refine dcall_of Tryz.func12 rfl (by kernel_rfl) Tryz.ntmps12 (by kernel_rfl) (by simp) (rs := [.tmp 2]) rfl ?_
  rintro ⟨P, E, σ0, w0, base, n, kb⟩ rfl rfl rfl rfl
  have e0 := tB (beqT (show n = n from rfl))
  have e1 := tV (show (s.toList == s.toList) = true from beq_self_eq_true _)
  simp -implicitDefEqProofs only [go_sem, Int.reduceEq, ↓reduceIte, Nat.reduceEqDiff, Nat.reduceAdd, Nat.reduceMul, Nat.reduceSub, Nat.reduceDiv, Nat.reduceLeDiff, Nat.reduceLT, Nat.reduceBEq, Nat.reduceBNe, reduceCtorEq, Int.reduceLE, Int.reduceLT, Int.reduceToNat, decide_true, decide_false, OpD.cells, iD, uD, hk, Int.reduceBEq]
  refine drawn_intro (by kernel_rfl) (by kernel_rfl) (by kernel_rfl) ?_
  simp -implicitDefEqProofs only [go_sem, Int.reduceEq, ↓reduceIte, Nat.reduceEqDiff, Nat.reduceAdd, Nat.reduceMul, Nat.reduceSub, Nat.reduceDiv, Nat.reduceLeDiff, Nat.reduceLT, Nat.reduceBEq, Nat.reduceBNe, reduceCtorEq, Int.reduceLE, Int.reduceLT, Int.reduceToNat, decide_true, decide_false, OpD.cells, iD, uD]
  refine Call.intro (lbox_c _ (o.xl, o.xh)) ?_
  simp -implicitDefEqProofs only [go_sem, Int.reduceEq, ↓reduceIte, Nat.reduceEqDiff, Nat.reduceAdd, Nat.reduceMul, Nat.reduceSub, Nat.reduceDiv, Nat.reduceLeDiff, Nat.reduceLT, Nat.reduceBEq, Nat.reduceBNe, reduceCtorEq, Int.reduceLE, Int.reduceLT, Int.reduceToNat, decide_true, decide_false]
  refine Call.intro (lbox_c _ (o.yl, o.yh)) ?_
  simp -implicitDefEqProofs only [go_sem, Int.reduceEq, ↓reduceIte, Nat.reduceEqDiff, Nat.reduceAdd, Nat.reduceMul, Nat.reduceSub, Nat.reduceDiv, Nat.reduceLeDiff, Nat.reduceLT, Nat.reduceBEq, Nat.reduceBNe, reduceCtorEq, Int.reduceLE, Int.reduceLT, Int.reduceToNat, decide_true, decide_false]
  refine Call.intro h1 ?_
  simp -implicitDefEqProofs only [go_sem, Int.reduceEq, ↓reduceIte, Nat.reduceEqDiff, Nat.reduceAdd, Nat.reduceMul, Nat.reduceSub, Nat.reduceDiv, Nat.reduceLeDiff, Nat.reduceLT, Nat.reduceBEq, Nat.reduceBNe, reduceCtorEq, Int.reduceLE, Int.reduceLT, Int.reduceToNat, decide_true, decide_false]
  refine Call.intro h2 ?_
  simp -implicitDefEqProofs only [go_sem, Int.reduceEq, ↓reduceIte, Nat.reduceEqDiff, Nat.reduceAdd, Nat.reduceMul, Nat.reduceSub, Nat.reduceDiv, Nat.reduceLeDiff, Nat.reduceLT, Nat.reduceBEq, Nat.reduceBNe, reduceCtorEq, Int.reduceLE, Int.reduceLT, Int.reduceToNat, decide_true, decide_false]
  refine Call.intro (same_c _ _) ?_
  simp -implicitDefEqProofs only [go_sem, Int.reduceEq, ↓reduceIte, Nat.reduceEqDiff, Nat.reduceAdd, Nat.reduceMul, Nat.reduceSub, Nat.reduceDiv, Nat.reduceLeDiff, Nat.reduceLT, Nat.reduceBEq, Nat.reduceBNe, reduceCtorEq, Int.reduceLE, Int.reduceLT, Int.reduceToNat, decide_true, decide_false, e0, e1, beq_self_eq_true, finK]
end
end Go.Enc
