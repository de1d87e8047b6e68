/-
  An operation at all four corners.
-/
import Derived.Test.YtjlibljfpkmpfaaGreatDoorIv
set_option linter.unusedSimpArgs false
namespace Go.Enc
open Go.Proofs Go.Enc.Fl

/-- What an operation makes of a corner: what it answers; where that is no number, what stands in its place. -/
structure Corner (E : Nat → Option Value) (F : FuncId) (op : ByteArray) (x y l h : Nat) : Prop where
  ex : ∃ l0 h0, DCall Tryz.prog E F [flD x, flD y, intD (-1)] (.data (flD l0)) ∧ DCall Tryz.prog E F [flD x, flD y, intD 1] (.data (flD h0)) ∧
    ((Num l0 ∧ l = l0 ∧ h = h0) ∨ (¬ Num l0 ∧ DCall Tryz.prog E 124 [strD op, flD x, flD y] (.data (flD l)) ∧ h = l))
  ln : Num l
  hn : Num h
  ll : l < 18446744073709551616
  hl : h < 18446744073709551616
/-- The least, the greatest, of the first ones. -/
def loS (ls : Nat → Nat) : Nat → Nat
  | 0 => 9218868437227405312
  | n + 1 => (pickF false (loS ls n) (ls n)).getD 0
def hiS (hs : Nat → Nat) : Nat → Nat
  | 0 => 18442240474082181120
  | n + 1 => (pickF true (hiS hs n) (hs n)).getD 0
theorem loS_spec {ls : Nat → Nat} {m : Nat} (h : ∀ n, n < m → Num (ls n) ∧ ls n < 18446744073709551616) : ∀ n, n ≤ m → Num (loS ls n) ∧ loS ls n < 18446744073709551616
  | 0, _ => ⟨show Num 9218868437227405312 by decide, show 9218868437227405312 < 18446744073709551616 by decide⟩
  | n + 1, hn => by
    obtain ⟨h1, h2⟩ := loS_spec h n (by omega)
    obtain ⟨h3, h4⟩ := h n (by omega)
    obtain ⟨z, e, hz, _⟩ := pickF_spec false h1 h3
    simp only [loS, e, Option.getD_some]
    rcases hz with rfl | rfl
    · exact ⟨h1, h2⟩
    · exact ⟨h3, h4⟩
theorem hiS_spec {ls : Nat → Nat} {m : Nat} (h : ∀ n, n < m → Num (ls n) ∧ ls n < 18446744073709551616) : ∀ n, n ≤ m → Num (hiS ls n) ∧ hiS ls n < 18446744073709551616
  | 0, _ => ⟨show Num 18442240474082181120 by decide, show 18442240474082181120 < 18446744073709551616 by decide⟩
  | n + 1, hn => by
    obtain ⟨h1, h2⟩ := hiS_spec h n (by omega)
    obtain ⟨h3, h4⟩ := h n (by omega)
    obtain ⟨z, e, hz, _⟩ := pickF_spec true h1 h3
    simp only [hiS, e, Option.getD_some]
    rcases hz with rfl | rfl
    · exact ⟨h1, h2⟩
    · exact ⟨h3, h4⟩
theorem loS_pick {ls : Nat → Nat} {m n : Nat} (h : ∀ n, n < m → Num (ls n) ∧ ls n < 18446744073709551616) (hn : n < m) : pickF false (loS ls n) (ls n) = some (loS ls (n + 1)) ∧ idx (loS ls (n + 1)) = min (idx (loS ls n)) (idx (ls n)) := by
  obtain ⟨z, e, _, hz⟩ := pickF_spec false (loS_spec h n (by omega)).1 (h n hn).1
  simp only [loS, e, Option.getD_some]
  exact ⟨trivial, by simpa using hz⟩
theorem hiS_pick {ls : Nat → Nat} {m n : Nat} (h : ∀ n, n < m → Num (ls n) ∧ ls n < 18446744073709551616) (hn : n < m) : pickF true (hiS ls n) (ls n) = some (hiS ls (n + 1)) ∧ idx (hiS ls (n + 1)) = max (idx (hiS ls n)) (idx (ls n)) := by
  obtain ⟨z, e, _, hz⟩ := pickF_spec true (hiS_spec h n (by omega)).1 (h n hn).1
  simp only [hiS, e, Option.getD_some]
  exact ⟨trivial, by simpa using hz⟩
def two (a b : Nat) (i : Nat) : Nat := if i = 0 then a else b
set_option maxRecDepth 100000 in
theorem corners_c {E : Nat → Option Value} {q : Nat → Addr} (hq : Sent E q) {F : FuncId} (hF : isP F = false) (op : ByteArray) {x0 x1 y0 y1 : Nat} {ls hs : Nat → Nat}
    (hc : ∀ j k, j < 2 → k < 2 → Corner E F op (two x0 x1 j) (two y0 y1 k) (ls (2 * j + k)) (hs (2 * j + k))) :
    DCall Tryz.prog E 87 [strD op, ivD (x0, x1), ivD (y0, y1), .v (.func (.func F) #[] #[])] (.data (endsP q op (loS ls 4) (hiS hs 4))) := by
  have hl : ∀ n, n < 4 → Num (ls n) ∧ ls n < 18446744073709551616 := fun n hn => by
    have h := hc (n / 2) (n % 2) (by omega) (by omega)
    rw [show 2 * (n / 2) + n % 2 = n by omega] at h
    exact ⟨h.ln, h.ll⟩
  have hh : ∀ n, n < 4 → Num (hs n) ∧ hs n < 18446744073709551616 := fun n hn => by
    have h := hc (n / 2) (n % 2) (by omega) (by omega)
    rw [show 2 * (n / 2) + n % 2 = n by omega] at h
    exact ⟨h.hn, h.hl⟩
  have he := ends_c hq op (loS_spec hl 4 (by omega)).2 (hiS_spec hh 4 (by omega)).2
  generalize hR : endsP q op (loS ls 4) (hiS hs 4) = R at *
  refine dcall_of Tryz.func87 rfl (by kernel_rfl) Tryz.ntmps87 (by kernel_rfl) (by simp) (rs := [.cell 8 59, .tmp 9]) rfl ?_
  rintro ⟨P, E, σ0, w0, base, n, kb⟩ rfl rfl rfl rfl
  simp -implicitDefEqProofs only [go_sem, Int.reduceEq, ↓reduceIte, Nat.reduceEqDiff, Nat.reduceAdd, Nat.reduceMul, Nat.reduceSub, Nat.reduceDiv, Nat.reduceLeDiff, Nat.reduceLT, Nat.reduceBEq, Nat.reduceBNe, reduceCtorEq, Int.reduceLE, Int.reduceLT, Int.reduceToNat, decide_true, decide_false]
  refine Call.intro (inf_c _ 1) ?_
  simp -implicitDefEqProofs only [go_sem, Int.reduceEq, ↓reduceIte, Nat.reduceEqDiff, Nat.reduceAdd, Nat.reduceMul, Nat.reduceSub, Nat.reduceDiv, Nat.reduceLeDiff, Nat.reduceLT, Nat.reduceBEq, Nat.reduceBNe, reduceCtorEq, Int.reduceLE, Int.reduceLT, Int.reduceToNat, decide_true, decide_false]
  refine Call.intro (inf_c _ (-1)) ?_
  simp -implicitDefEqProofs only [go_sem, Int.reduceEq, ↓reduceIte, Nat.reduceEqDiff, Nat.reduceAdd, Nat.reduceMul, Nat.reduceSub, Nat.reduceDiv, Nat.reduceLeDiff, Nat.reduceLT, Nat.reduceBEq, Nat.reduceBNe, reduceCtorEq, Int.reduceLE, Int.reduceLT, Int.reduceToNat, decide_true, decide_false]
  rw [stop_eq]
  have step : ∀ j k, j < 2 → k < 2 → Corner E F op (two x0 x1 j) (two y0 y1 k) (ls (2 * j + k)) (hs (2 * j + k)) ∧ pickF false (loS ls (2 * j + k)) (ls (2 * j + k)) = some (loS ls (2 * j + (k + 1))) ∧ pickF true (hiS hs (2 * j + k)) (hs (2 * j + k)) = some (hiS hs (2 * j + (k + 1))) := fun j k hj hk =>
    ⟨hc j k hj hk, (loS_pick hl (by omega)).1, (hiS_pick hh (by omega)).1⟩
  refine dwp_loop (α := {j : Nat // j ≤ 2}) (fun j => St.of [(0, .d (strD op)), (3, .d (.v (.func (.func F) #[] #[]))), (5, .ptr 5 0), (6, .ptr 6 0), (8, .ptr 8 0), (10, .d (flD (loS ls (2 * j.1)))), (11, .d (flD (hiS hs (2 * j.1)))), (24, .d (.agg [flD x0, flD x1])), (25, .d (intD j.1))]
    [(5, ⟨none, [.d (flD x0), .d (flD x1)]⟩), (6, ⟨none, [.d (flD y0), .d (flD y1)]⟩), (8, ⟨none, [.d (flD 0), .d (flD 0)]⟩)]) (fun j => 2 - j.1) ⟨0, by omega⟩ (weak_of ?_ ?_ rfl) (by kernel_rfl) (fun j => ?_)
  · simp -implicitDefEqProofs only [go_sem, Int.reduceEq, ↓reduceIte, Nat.reduceEqDiff, Nat.reduceAdd, Nat.reduceMul, Nat.reduceSub, Nat.reduceDiv, Nat.reduceLeDiff, Nat.reduceLT, Nat.reduceBEq, Nat.reduceBNe, reduceCtorEq, Int.reduceLE, Int.reduceLT, Int.reduceToNat, decide_true, decide_false, loS, hiS]
  · simp -implicitDefEqProofs only [go_sem, Int.reduceEq, ↓reduceIte, Nat.reduceEqDiff, Nat.reduceAdd, Nat.reduceMul, Nat.reduceSub, Nat.reduceDiv, Nat.reduceLeDiff, Nat.reduceLT, Nat.reduceBEq, Nat.reduceBNe, reduceCtorEq, Int.reduceLE, Int.reduceLT, Int.reduceToNat, decide_true, decide_false]
  · obtain ⟨j, hj⟩ := j
    by_cases hA : j < 2
    · have eA : decide ((j : Int) < 2) = true := tD (by omega)
      have ex : ([flD x0, flD x1] : List D)[j]? = some (flD (two x0 x1 j)) := by
        have : j = 0 ∨ j = 1 := by omega
        rcases this with rfl | rfl <;> rfl
      have eJ : (j : Int) < ((2 : Nat) : Int) := by omega
      simp -implicitDefEqProofs only [go_sem, Int.reduceEq, ↓reduceIte, Nat.reduceEqDiff, Nat.reduceAdd, Nat.reduceMul, Nat.reduceSub, Nat.reduceDiv, Nat.reduceLeDiff, Nat.reduceLT, Nat.reduceBEq, Nat.reduceBNe, reduceCtorEq, Int.reduceLE, Int.reduceLT, Int.reduceToNat, decide_true, decide_false, eA, eJ, ex]
      rw [stop_eq]
      refine dwp_loop (α := {k : Nat // k ≤ 2}) (fun k => St.of [(0, .d (strD op)), (3, .d (.v (.func (.func F) #[] #[]))), (5, .ptr 5 0), (6, .ptr 6 0), (8, .ptr 8 0), (10, .d (flD (loS ls (2 * j + k.1)))), (11, .d (flD (hiS hs (2 * j + k.1)))), (13, .d (flD (two x0 x1 j))), (24, .d (.agg [flD x0, flD x1])), (25, .d (intD j)), (32, .d (.agg [flD y0, flD y1])), (33, .d (intD k.1))]
        [(5, ⟨none, [.d (flD x0), .d (flD x1)]⟩), (6, ⟨none, [.d (flD y0), .d (flD y1)]⟩), (8, ⟨none, [.d (flD 0), .d (flD 0)]⟩)]) (fun k => 2 - k.1) ⟨0, by omega⟩ (weak_of ?_ ?_ rfl) (by kernel_rfl) (fun k => ?_)
      · simp -implicitDefEqProofs only [go_sem, Int.reduceEq, ↓reduceIte, Nat.reduceEqDiff, Nat.reduceAdd, Nat.reduceMul, Nat.reduceSub, Nat.reduceDiv, Nat.reduceLeDiff, Nat.reduceLT, Nat.reduceBEq, Nat.reduceBNe, reduceCtorEq, Int.reduceLE, Int.reduceLT, Int.reduceToNat, decide_true, decide_false]
      · simp -implicitDefEqProofs only [go_sem, Int.reduceEq, ↓reduceIte, Nat.reduceEqDiff, Nat.reduceAdd, Nat.reduceMul, Nat.reduceSub, Nat.reduceDiv, Nat.reduceLeDiff, Nat.reduceLT, Nat.reduceBEq, Nat.reduceBNe, reduceCtorEq, Int.reduceLE, Int.reduceLT, Int.reduceToNat, decide_true, decide_false]
      · obtain ⟨k, hk⟩ := k
        by_cases hB : k < 2
        · have eB : decide ((k : Int) < 2) = true := tD (by omega)
          have eK : (k : Int) < ((2 : Nat) : Int) := by omega
          have ey : ([flD y0, flD y1] : List D)[k]? = some (flD (two y0 y1 k)) := by
            have : k = 0 ∨ k = 1 := by omega
            rcases this with rfl | rfl <;> rfl
          have w1 : IntKind.i64.wrap ((k : Int) + 1) = ((k + 1 : Nat) : Int) := addN1 (by omega)
          obtain ⟨⟨⟨l0, h0, c1, c2, c3⟩, _, _, _, _⟩, pl, ph⟩ := step j k hA hB
          simp -implicitDefEqProofs only [go_sem, Int.reduceEq, ↓reduceIte, Nat.reduceEqDiff, Nat.reduceAdd, Nat.reduceMul, Nat.reduceSub, Nat.reduceDiv, Nat.reduceLeDiff, Nat.reduceLT, Nat.reduceBEq, Nat.reduceBNe, reduceCtorEq, Int.reduceLE, Int.reduceLT, Int.reduceToNat, decide_true, decide_false, eB, eK, ey, hF]
          refine Call.intro c1 ?_
          simp -implicitDefEqProofs only [go_sem, Int.reduceEq, ↓reduceIte, Nat.reduceEqDiff, Nat.reduceAdd, Nat.reduceMul, Nat.reduceSub, Nat.reduceDiv, Nat.reduceLeDiff, Nat.reduceLT, Nat.reduceBEq, Nat.reduceBNe, reduceCtorEq, Int.reduceLE, Int.reduceLT, Int.reduceToNat, decide_true, decide_false, hF]
          refine Call.intro c2 ?_
          simp -implicitDefEqProofs only [go_sem, Int.reduceEq, ↓reduceIte, Nat.reduceEqDiff, Nat.reduceAdd, Nat.reduceMul, Nat.reduceSub, Nat.reduceDiv, Nat.reduceLeDiff, Nat.reduceLT, Nat.reduceBEq, Nat.reduceBNe, reduceCtorEq, Int.reduceLE, Int.reduceLT, Int.reduceToNat, decide_true, decide_false]
          refine Call.intro (isNaN_c _ l0) ?_
          obtain ⟨k', hk'⟩ : ∃ k' : {k : Nat // k ≤ 2}, k'.1 = k + 1 := ⟨⟨k + 1, hB⟩, rfl⟩
          rcases c3 with ⟨n1, rfl, rfl⟩ | ⟨n1, c4, e4⟩
          · have eN : decide (¬ Num (ls (2 * j + k))) = false := decide_eq_false (fun h => h n1)
            simp -implicitDefEqProofs only [go_sem, Int.reduceEq, ↓reduceIte, Nat.reduceEqDiff, Nat.reduceAdd, Nat.reduceMul, Nat.reduceSub, Nat.reduceDiv, Nat.reduceLeDiff, Nat.reduceLT, Nat.reduceBEq, Nat.reduceBNe, reduceCtorEq, Int.reduceLE, Int.reduceLT, Int.reduceToNat, decide_true, decide_false, boolD, eN, pl, ph, w1]
            refine ⟨k', weak_of ?_ ?_ rfl, by simp only [hk']; omega⟩
            · simp -implicitDefEqProofs only [go_sem, Int.reduceEq, ↓reduceIte, Nat.reduceEqDiff, Nat.reduceAdd, Nat.reduceMul, Nat.reduceSub, Nat.reduceDiv, Nat.reduceLeDiff, Nat.reduceLT, Nat.reduceBEq, Nat.reduceBNe, reduceCtorEq, Int.reduceLE, Int.reduceLT, Int.reduceToNat, decide_true, decide_false, hk']
            · simp -implicitDefEqProofs only [go_sem, Int.reduceEq, ↓reduceIte, Nat.reduceEqDiff, Nat.reduceAdd, Nat.reduceMul, Nat.reduceSub, Nat.reduceDiv, Nat.reduceLeDiff, Nat.reduceLT, Nat.reduceBEq, Nat.reduceBNe, reduceCtorEq, Int.reduceLE, Int.reduceLT, Int.reduceToNat, decide_true, decide_false]
          · have eN : decide (¬ Num l0) = true := decide_eq_true n1
            rw [e4] at ph
            simp -implicitDefEqProofs only [go_sem, Int.reduceEq, ↓reduceIte, Nat.reduceEqDiff, Nat.reduceAdd, Nat.reduceMul, Nat.reduceSub, Nat.reduceDiv, Nat.reduceLeDiff, Nat.reduceLT, Nat.reduceBEq, Nat.reduceBNe, reduceCtorEq, Int.reduceLE, Int.reduceLT, Int.reduceToNat, decide_true, decide_false, boolD, eN]
            refine Call.intro c4 ?_
            simp -implicitDefEqProofs only [go_sem, Int.reduceEq, ↓reduceIte, Nat.reduceEqDiff, Nat.reduceAdd, Nat.reduceMul, Nat.reduceSub, Nat.reduceDiv, Nat.reduceLeDiff, Nat.reduceLT, Nat.reduceBEq, Nat.reduceBNe, reduceCtorEq, Int.reduceLE, Int.reduceLT, Int.reduceToNat, decide_true, decide_false, pl, ph, w1]
            refine ⟨k', weak_of ?_ ?_ rfl, by simp only [hk']; omega⟩
            · simp -implicitDefEqProofs only [go_sem, Int.reduceEq, ↓reduceIte, Nat.reduceEqDiff, Nat.reduceAdd, Nat.reduceMul, Nat.reduceSub, Nat.reduceDiv, Nat.reduceLeDiff, Nat.reduceLT, Nat.reduceBEq, Nat.reduceBNe, reduceCtorEq, Int.reduceLE, Int.reduceLT, Int.reduceToNat, decide_true, decide_false, hk']
            · simp -implicitDefEqProofs only [go_sem, Int.reduceEq, ↓reduceIte, Nat.reduceEqDiff, Nat.reduceAdd, Nat.reduceMul, Nat.reduceSub, Nat.reduceDiv, Nat.reduceLeDiff, Nat.reduceLT, Nat.reduceBEq, Nat.reduceBNe, reduceCtorEq, Int.reduceLE, Int.reduceLT, Int.reduceToNat, decide_true, decide_false]
        · have eB : decide ((k : Int) < 2) = false := fD (by omega)
          have hk2 : k = 2 := by omega
          have w1 : IntKind.i64.wrap ((j : Int) + 1) = ((j + 1 : Nat) : Int) := addN1 (by omega)
          have e2 : 2 * j + k = 2 * (j + 1) := by omega
          simp -implicitDefEqProofs only [go_sem, Int.reduceEq, ↓reduceIte, Nat.reduceEqDiff, Nat.reduceAdd, Nat.reduceMul, Nat.reduceSub, Nat.reduceDiv, Nat.reduceLeDiff, Nat.reduceLT, Nat.reduceBEq, Nat.reduceBNe, reduceCtorEq, Int.reduceLE, Int.reduceLT, Int.reduceToNat, decide_true, decide_false, eB, w1]
          obtain ⟨j', hj'⟩ : ∃ j' : {j : Nat // j ≤ 2}, j'.1 = j + 1 := ⟨⟨j + 1, hA⟩, rfl⟩
          refine ⟨j', weak_of ?_ ?_ rfl, by simp only [hj']; omega⟩
          · simp -implicitDefEqProofs only [go_sem, Int.reduceEq, ↓reduceIte, Nat.reduceEqDiff, Nat.reduceAdd, Nat.reduceMul, Nat.reduceSub, Nat.reduceDiv, Nat.reduceLeDiff, Nat.reduceLT, Nat.reduceBEq, Nat.reduceBNe, reduceCtorEq, Int.reduceLE, Int.reduceLT, Int.reduceToNat, decide_true, decide_false, hj', e2]
          · simp -implicitDefEqProofs only [go_sem, Int.reduceEq, ↓reduceIte, Nat.reduceEqDiff, Nat.reduceAdd, Nat.reduceMul, Nat.reduceSub, Nat.reduceDiv, Nat.reduceLeDiff, Nat.reduceLT, Nat.reduceBEq, Nat.reduceBNe, reduceCtorEq, Int.reduceLE, Int.reduceLT, Int.reduceToNat, decide_true, decide_false]
    · have eA : decide ((j : Int) < 2) = false := fD (by omega)
      have hj2 : j = 2 := by omega
      subst hj2
      simp -implicitDefEqProofs only [go_sem, Int.reduceEq, ↓reduceIte, Nat.reduceEqDiff, Nat.reduceAdd, Nat.reduceMul, Nat.reduceSub, Nat.reduceDiv, Nat.reduceLeDiff, Nat.reduceLT, Nat.reduceBEq, Nat.reduceBNe, reduceCtorEq, Int.reduceLE, Int.reduceLT, Int.reduceToNat, decide_true, decide_false, eA]
      refine Call.intro he ?_
      rw [← hR]
      unfold endsP
      split
      · simp -implicitDefEqProofs only [go_sem, Int.reduceEq, ↓reduceIte, Nat.reduceEqDiff, Nat.reduceAdd, Nat.reduceMul, Nat.reduceSub, Nat.reduceDiv, Nat.reduceLeDiff, Nat.reduceLT, Nat.reduceBEq, Nat.reduceBNe, reduceCtorEq, Int.reduceLE, Int.reduceLT, Int.reduceToNat, decide_true, decide_false]
        refine fin_many ?_
        simp -implicitDefEqProofs only [go_sem, Int.reduceEq, ↓reduceIte, Nat.reduceEqDiff, Nat.reduceAdd, Nat.reduceMul, Nat.reduceSub, Nat.reduceDiv, Nat.reduceLeDiff, Nat.reduceLT, Nat.reduceBEq, Nat.reduceBNe, reduceCtorEq, Int.reduceLE, Int.reduceLT, Int.reduceToNat, decide_true, decide_false]
      · simp -implicitDefEqProofs only [go_sem, Int.reduceEq, ↓reduceIte, Nat.reduceEqDiff, Nat.reduceAdd, Nat.reduceMul, Nat.reduceSub, Nat.reduceDiv, Nat.reduceLeDiff, Nat.reduceLT, Nat.reduceBEq, Nat.reduceBNe, reduceCtorEq, Int.reduceLE, Int.reduceLT, Int.reduceToNat, decide_true, decide_false]
        refine fin_many ?_
        simp -implicitDefEqProofs only [go_sem, Int.reduceEq, ↓reduceIte, Nat.reduceEqDiff, Nat.reduceAdd, Nat.reduceMul, Nat.reduceSub, Nat.reduceDiv, Nat.reduceLeDiff, Nat.reduceLT, Nat.reduceBEq, Nat.reduceBNe, reduceCtorEq, Int.reduceLE, Int.reduceLT, Int.reduceToNat, decide_true, decide_false]
end Go.Enc
