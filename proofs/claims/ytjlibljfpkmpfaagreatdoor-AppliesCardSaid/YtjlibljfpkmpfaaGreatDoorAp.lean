/-
  Apply: the program's by its table, the document's by its list of names; they answer alike.
-/
import Derived.Test.YtjlibljfpkmpfaaGreatDoorOt
import Derived.Laws.Strings
set_option linter.unusedSimpArgs false
set_option maxRecDepth 100000
namespace Go.Enc
open Go.Proofs Go.Enc.Dg Go.Enc.Nu Go.Enc.Fl

/-- The table's names and functions. -/
def tabN : Nat → ByteArray
  | 0 => ⟨#[43]⟩
  | 1 => ⟨#[45]⟩
  | 2 => ⟨#[42]⟩
  | 3 => ⟨#[47]⟩
  | 4 => ⟨#[109, 101, 101, 116]⟩
  | _ => ⟨#[104, 117, 108, 108]⟩
def tabF : Nat → FuncId
  | 0 => 41
  | 1 => 42
  | 2 => 43
  | 3 => 44
  | 4 => 40
  | _ => 183
/-- The document's names. -/
def refN : Nat → ByteArray
  | 0 => ⟨#[]⟩
  | 1 => ⟨#[104, 117, 108, 108]⟩
  | 2 => ⟨#[109, 101, 101, 116]⟩
  | 3 => ⟨#[43]⟩
  | 4 => ⟨#[45]⟩
  | 5 => ⟨#[42]⟩
  | _ => ⟨#[47]⟩
def tabC : List D := [.v (.string ⟨#[43]⟩), .v (.func (.func 41) #[] #[]), .v (.string ⟨#[45]⟩), .v (.func (.func 42) #[] #[]), .v (.string ⟨#[42]⟩), .v (.func (.func 43) #[] #[]), .v (.string ⟨#[47]⟩), .v (.func (.func 44) #[] #[]), .v (.string ⟨#[109, 101, 101, 116]⟩), .v (.func (.func 40) #[] #[]), .v (.string ⟨#[104, 117, 108, 108]⟩), .v (.func (.func 183) #[] #[])]
theorem tabD_eq : tabD = .sl 2 tabC := rfl
theorem tabC_len : tabC.length = 12 := rfl
theorem tab_row {k : Nat} (h : k < 6) : (tabC.drop (k * 2)).take 2 = [.v (.string (tabN k)), .v (.func (.func (tabF k)) #[] #[])] := by
  have : k = 0 ∨ k = 1 ∨ k = 2 ∨ k = 3 ∨ k = 4 ∨ k = 5 := by omega
  rcases this with rfl | rfl | rfl | rfl | rfl | rfl <;> rfl
theorem tab_isP {k : Nat} (h : k < 6) : isP (tabF k) = false := by
  have : k = 0 ∨ k = 1 ∨ k = 2 ∨ k = 3 ∨ k = 4 ∨ k = 5 := by omega
  rcases this with rfl | rfl | rfl | rfl | rfl | rfl <;> decide
def refC : List T := [.d (.v (.string ⟨#[]⟩)), .d (.v (.string ⟨#[104, 117, 108, 108]⟩)), .d (.v (.string ⟨#[109, 101, 101, 116]⟩)), .d (.v (.string ⟨#[43]⟩)), .d (.v (.string ⟨#[45]⟩)), .d (.v (.string ⟨#[42]⟩)), .d (.v (.string ⟨#[47]⟩))]
theorem refC_len : refC.length = 7 := rfl
theorem ref_row {k : Nat} (h : k < 7) : refC[k]? = some (.d (.v (.string (refN k)))) := by
  have : k = 0 ∨ k = 1 ∨ k = 2 ∨ k = 3 ∨ k = 4 ∨ k = 5 ∨ k = 6 := by omega
  rcases this with rfl | rfl | rfl | rfl | rfl | rfl | rfl <;> rfl
theorem toList_inj {a b : ByteArray} (h : a.toList = b.toList) : a = b := by
  rw [ByteArray.toList_eq, ByteArray.toList_eq] at h
  exact ByteArray.ext (Array.toList_inj.mp h)
theorem str_eq {a b : ByteArray} (h : a = b) : (a.toList == b.toList) = true := by rw [h]; exact beq_self_eq_true _
theorem str_ne {a b : ByteArray} (h : a ≠ b) : (a.toList == b.toList) = false := by
  rw [beq_eq_false_iff_ne]
  intro e
  exact h (toList_inj e)
theorem htab_c (E : Nat → Option Value) {a b r : Nat × Nat} (h : DCall Tryz.prog E 39 [ivD a, ivD b] (.data (ivD r))) : DCall Tryz.prog E 183 [ivD a, ivD b] (.data (.tup [ivD r, .v .nilIface])) := by
  refine dcall_of Tryz.func183 rfl (by kernel_rfl) Tryz.ntmps183 (by kernel_rfl) (by simp) (rs := [.cell 4 59, .tmp 5]) rfl ?_
  rintro ⟨P, E, σ0, w0, base, n, kb⟩ rfl rfl rfl rfl
  simp -implicitDefEqProofs only [go_sem, Int.reduceEq, ↓reduceIte, Nat.reduceEqDiff, Nat.reduceAdd, Nat.reduceMul, Nat.reduceSub, Nat.reduceDiv, Nat.reduceLeDiff, Nat.reduceLT, Nat.reduceBEq, Nat.reduceBNe, reduceCtorEq, Int.reduceLE, Int.reduceLT, Int.reduceToNat, decide_true, decide_false]
  refine Call.intro h ?_
  simp -implicitDefEqProofs only [go_sem, Int.reduceEq, ↓reduceIte, Nat.reduceEqDiff, Nat.reduceAdd, Nat.reduceMul, Nat.reduceSub, Nat.reduceDiv, Nat.reduceLeDiff, Nat.reduceLT, Nat.reduceBEq, Nat.reduceBNe, reduceCtorEq, Int.reduceLE, Int.reduceLT, Int.reduceToNat, decide_true, decide_false]
  refine fin_many ?_
  simp -implicitDefEqProofs only [go_sem, Int.reduceEq, ↓reduceIte, Nat.reduceEqDiff, Nat.reduceAdd, Nat.reduceMul, Nat.reduceSub, Nat.reduceDiv, Nat.reduceLeDiff, Nat.reduceLT, Nat.reduceBEq, Nat.reduceBNe, reduceCtorEq, Int.reduceLE, Int.reduceLT, Int.reduceToNat, decide_true, decide_false]
theorem iapply_c {E : Nat → Option Value} {u : Value} (hE : E 9 = some u) {nm : ByteArray} {a b r : Nat × Nat} {e : D} {i : Nat} (hi : i < 6) (hne : ∀ j, j < i → tabN j ≠ nm) (heq : tabN i = nm) (hf : DCall Tryz.prog E (tabF i) [ivD a, ivD b] (.data (.tup [ivD r, e]))) :
    DCall Tryz.prog E 57 [strD nm, ivD a, ivD b] (.data (.tup [ivD r, e])) := by
  refine dcall_of Tryz.func57 rfl (by kernel_rfl) Tryz.ntmps57 (by kernel_rfl) (by simp) (rs := [.cell 6 59, .tmp 7]) rfl ?_
  rintro ⟨P, E, σ0, w0, base, n, kb⟩ rfl rfl rfl rfl
  have hE : E 9 = some u := hE
  have c6 : ((6 : Nat) : Int) = 6 := rfl
  simp -implicitDefEqProofs only [go_sem, Int.reduceEq, ↓reduceIte, Nat.reduceEqDiff, Nat.reduceAdd, Nat.reduceMul, Nat.reduceSub, Nat.reduceDiv, Nat.reduceLeDiff, Nat.reduceLT, Nat.reduceBEq, Nat.reduceBNe, reduceCtorEq, Int.reduceLE, Int.reduceLT, Int.reduceToNat, decide_true, decide_false, hE, tabD, c6]
  rw [stop_eq]
  refine dwp_loop (α := {k : Nat // k ≤ i}) (fun k => St.of [(0, .d (strD nm)), (4, .ptr 4 0), (5, .ptr 5 0), (6, .ptr 6 0), (10, .d tabD), (11, .d (intD 6)), (12, .d (intD k.1))]
    [(4, ⟨none, [.d (flD a.1), .d (flD a.2)]⟩), (5, ⟨none, [.d (flD b.1), .d (flD b.2)]⟩), (6, ⟨none, [.d (flD 0), .d (flD 0)]⟩)]) (fun k => i - k.1) ⟨0, by omega⟩ (weak_of ?_ ?_ rfl) (by kernel_rfl) (fun k => ?_)
  · have c0 : ((0 : Nat) : Int) = 0 := rfl
    simp -implicitDefEqProofs only [go_sem, Int.reduceEq, ↓reduceIte, Nat.reduceEqDiff, Nat.reduceAdd, Nat.reduceMul, Nat.reduceSub, Nat.reduceDiv, Nat.reduceLeDiff, Nat.reduceLT, Nat.reduceBEq, Nat.reduceBNe, reduceCtorEq, Int.reduceLE, Int.reduceLT, Int.reduceToNat, decide_true, decide_false, tabD, c0]
  · simp -implicitDefEqProofs only [go_sem, Int.reduceEq, ↓reduceIte, Nat.reduceEqDiff, Nat.reduceAdd, Nat.reduceMul, Nat.reduceSub, Nat.reduceDiv, Nat.reduceLeDiff, Nat.reduceLT, Nat.reduceBEq, Nat.reduceBNe, reduceCtorEq, Int.reduceLE, Int.reduceLT, Int.reduceToNat, decide_true, decide_false]
  · obtain ⟨k, hk⟩ := k
    have eA : decide ((k : Int) < 6) = true := tD (by omega)
    have w1 : IntKind.i64.wrap ((k : Int) + 1) = ((k + 1 : Nat) : Int) := addN1 (by omega)
    have q1 : k * 2 < 12 := by omega
    have q2 : k * 2 + 2 ≤ 12 := by omega
    by_cases hki : k = i
    · have e1 := tV (str_eq heq)
      have hx : ((tabC.drop (k * 2)).take 2) = [.v (.string (tabN i)), .v (.func (.func (tabF i)) #[] #[])] := by rw [hki]; exact tab_row hi
      have hP : isP (tabF i) = false := tab_isP hi
      simp -implicitDefEqProofs only [go_sem, Int.reduceEq, ↓reduceIte, Nat.reduceEqDiff, Nat.reduceAdd, Nat.reduceMul, Nat.reduceSub, Nat.reduceDiv, Nat.reduceLeDiff, Nat.reduceLT, Nat.reduceBEq, Nat.reduceBNe, reduceCtorEq, Int.reduceLE, Int.reduceLT, Int.reduceToNat, decide_true, decide_false, eA, tabD_eq, tabC_len, q1, q2, hx, e1, hP]
      refine Call.intro hf ?_
      simp -implicitDefEqProofs only [go_sem, Int.reduceEq, ↓reduceIte, Nat.reduceEqDiff, Nat.reduceAdd, Nat.reduceMul, Nat.reduceSub, Nat.reduceDiv, Nat.reduceLeDiff, Nat.reduceLT, Nat.reduceBEq, Nat.reduceBNe, reduceCtorEq, Int.reduceLE, Int.reduceLT, Int.reduceToNat, decide_true, decide_false]
      refine fin_many ?_
      simp -implicitDefEqProofs only [go_sem, Int.reduceEq, ↓reduceIte, Nat.reduceEqDiff, Nat.reduceAdd, Nat.reduceMul, Nat.reduceSub, Nat.reduceDiv, Nat.reduceLeDiff, Nat.reduceLT, Nat.reduceBEq, Nat.reduceBNe, reduceCtorEq, Int.reduceLE, Int.reduceLT, Int.reduceToNat, decide_true, decide_false]
    · have e1 := str_ne (hne k (by omega))
      have hx : ((tabC.drop (k * 2)).take 2) = [.v (.string (tabN k)), .v (.func (.func (tabF k)) #[] #[])] := tab_row (by omega)
      obtain ⟨k', hk'⟩ : ∃ k' : {k : Nat // k ≤ i}, k'.1 = k + 1 := ⟨⟨k + 1, by omega⟩, rfl⟩
      simp -implicitDefEqProofs only [go_sem, Int.reduceEq, ↓reduceIte, Nat.reduceEqDiff, Nat.reduceAdd, Nat.reduceMul, Nat.reduceSub, Nat.reduceDiv, Nat.reduceLeDiff, Nat.reduceLT, Nat.reduceBEq, Nat.reduceBNe, reduceCtorEq, Int.reduceLE, Int.reduceLT, Int.reduceToNat, decide_true, decide_false, eA, tabD_eq, tabC_len, q1, q2, hx, e1, w1]
      refine ⟨k', weak_of ?_ ?_ rfl, by simp only [hk']; omega⟩
      · simp -implicitDefEqProofs only [go_sem, Int.reduceEq, ↓reduceIte, Nat.reduceEqDiff, Nat.reduceAdd, Nat.reduceMul, Nat.reduceSub, Nat.reduceDiv, Nat.reduceLeDiff, Nat.reduceLT, Nat.reduceBEq, Nat.reduceBNe, reduceCtorEq, Int.reduceLE, Int.reduceLT, Int.reduceToNat, decide_true, decide_false, hk', tabD_eq]
      · simp -implicitDefEqProofs only [go_sem, Int.reduceEq, ↓reduceIte, Nat.reduceEqDiff, Nat.reduceAdd, Nat.reduceMul, Nat.reduceSub, Nat.reduceDiv, Nat.reduceLeDiff, Nat.reduceLT, Nat.reduceBEq, Nat.reduceBNe, reduceCtorEq, Int.reduceLE, Int.reduceLT, Int.reduceToNat, decide_true, decide_false]
theorem iapply_n {E : Nat → Option Value} {q : Nat → Addr} (hq : Sent E q) {u : Value} (hE : E 9 = some u) {nm : ByteArray} {a b : Nat × Nat} (hne : ∀ j, j < 6 → tabN j ≠ nm) :
    DCall Tryz.prog E 57 [strD nm, ivD a, ivD b] (.data (.tup [ivD (0, 0), opE nm (eD q 6)])) := by
  refine dcall_of Tryz.func57 rfl (by kernel_rfl) Tryz.ntmps57 (by kernel_rfl) (by simp) (rs := [.cell 6 59, .tmp 7]) rfl ?_
  rintro ⟨P, E, σ0, w0, base, n, kb⟩ rfl rfl rfl rfl
  have hE : E 9 = some u := hE
  have c6 : ((6 : Nat) : Int) = 6 := rfl
  have e6 : E 6 = some (errV (q 6)) := hq.var 6 (by decide)
  simp -implicitDefEqProofs only [go_sem, Int.reduceEq, ↓reduceIte, Nat.reduceEqDiff, Nat.reduceAdd, Nat.reduceMul, Nat.reduceSub, Nat.reduceDiv, Nat.reduceLeDiff, Nat.reduceLT, Nat.reduceBEq, Nat.reduceBNe, reduceCtorEq, Int.reduceLE, Int.reduceLT, Int.reduceToNat, decide_true, decide_false, hE, tabD, c6]
  rw [stop_eq]
  refine dwp_loop (α := {k : Nat // k ≤ 6}) (fun k => St.of [(0, .d (strD nm)), (4, .ptr 4 0), (5, .ptr 5 0), (6, .ptr 6 0), (10, .d tabD), (11, .d (intD 6)), (12, .d (intD k.1))]
    [(4, ⟨none, [.d (flD a.1), .d (flD a.2)]⟩), (5, ⟨none, [.d (flD b.1), .d (flD b.2)]⟩), (6, ⟨none, [.d (flD 0), .d (flD 0)]⟩)]) (fun k => 6 - k.1) ⟨0, by omega⟩ (weak_of ?_ ?_ rfl) (by kernel_rfl) (fun k => ?_)
  · have c0 : ((0 : Nat) : Int) = 0 := rfl
    simp -implicitDefEqProofs only [go_sem, Int.reduceEq, ↓reduceIte, Nat.reduceEqDiff, Nat.reduceAdd, Nat.reduceMul, Nat.reduceSub, Nat.reduceDiv, Nat.reduceLeDiff, Nat.reduceLT, Nat.reduceBEq, Nat.reduceBNe, reduceCtorEq, Int.reduceLE, Int.reduceLT, Int.reduceToNat, decide_true, decide_false, tabD, c0]
  · simp -implicitDefEqProofs only [go_sem, Int.reduceEq, ↓reduceIte, Nat.reduceEqDiff, Nat.reduceAdd, Nat.reduceMul, Nat.reduceSub, Nat.reduceDiv, Nat.reduceLeDiff, Nat.reduceLT, Nat.reduceBEq, Nat.reduceBNe, reduceCtorEq, Int.reduceLE, Int.reduceLT, Int.reduceToNat, decide_true, decide_false]
  · obtain ⟨k, hk⟩ := k
    by_cases hk6 : k < 6
    · have eA : decide ((k : Int) < 6) = true := tD (by omega)
      have w1 : IntKind.i64.wrap ((k : Int) + 1) = ((k + 1 : Nat) : Int) := addN1 (by omega)
      have q1 : k * 2 < 12 := by omega
      have q2 : k * 2 + 2 ≤ 12 := by omega
      have e1 := str_ne (hne k (by omega))
      have hx : ((tabC.drop (k * 2)).take 2) = [.v (.string (tabN k)), .v (.func (.func (tabF k)) #[] #[])] := tab_row (by omega)
      obtain ⟨k', hk'⟩ : ∃ k' : {k : Nat // k ≤ 6}, k'.1 = k + 1 := ⟨⟨k + 1, by omega⟩, rfl⟩
      simp -implicitDefEqProofs only [go_sem, Int.reduceEq, ↓reduceIte, Nat.reduceEqDiff, Nat.reduceAdd, Nat.reduceMul, Nat.reduceSub, Nat.reduceDiv, Nat.reduceLeDiff, Nat.reduceLT, Nat.reduceBEq, Nat.reduceBNe, reduceCtorEq, Int.reduceLE, Int.reduceLT, Int.reduceToNat, decide_true, decide_false, eA, tabD_eq, tabC_len, q1, q2, hx, e1, w1]
      refine ⟨k', weak_of ?_ ?_ rfl, by simp only [hk']; omega⟩
      · simp -implicitDefEqProofs only [go_sem, Int.reduceEq, ↓reduceIte, Nat.reduceEqDiff, Nat.reduceAdd, Nat.reduceMul, Nat.reduceSub, Nat.reduceDiv, Nat.reduceLeDiff, Nat.reduceLT, Nat.reduceBEq, Nat.reduceBNe, reduceCtorEq, Int.reduceLE, Int.reduceLT, Int.reduceToNat, decide_true, decide_false, hk', tabD_eq]
      · simp -implicitDefEqProofs only [go_sem, Int.reduceEq, ↓reduceIte, Nat.reduceEqDiff, Nat.reduceAdd, Nat.reduceMul, Nat.reduceSub, Nat.reduceDiv, Nat.reduceLeDiff, Nat.reduceLT, Nat.reduceBEq, Nat.reduceBNe, reduceCtorEq, Int.reduceLE, Int.reduceLT, Int.reduceToNat, decide_true, decide_false]
    · have eA : decide ((k : Int) < 6) = false := fD (by omega)
      simp -implicitDefEqProofs only [go_sem, Int.reduceEq, ↓reduceIte, Nat.reduceEqDiff, Nat.reduceAdd, Nat.reduceMul, Nat.reduceSub, Nat.reduceDiv, Nat.reduceLeDiff, Nat.reduceLT, Nat.reduceBEq, Nat.reduceBNe, reduceCtorEq, Int.reduceLE, Int.reduceLT, Int.reduceToNat, decide_true, decide_false, eA]
      refine drawn_intro (by kernel_rfl) (by kernel_rfl) (by kernel_rfl) ?_
      simp -implicitDefEqProofs only [go_sem, Int.reduceEq, ↓reduceIte, Nat.reduceEqDiff, Nat.reduceAdd, Nat.reduceMul, Nat.reduceSub, Nat.reduceDiv, Nat.reduceLeDiff, Nat.reduceLT, Nat.reduceBEq, Nat.reduceBNe, reduceCtorEq, Int.reduceLE, Int.reduceLT, Int.reduceToNat, decide_true, decide_false, e6, errV]
      refine fin_many ?_
      simp -implicitDefEqProofs only [go_sem, Int.reduceEq, ↓reduceIte, Nat.reduceEqDiff, Nat.reduceAdd, Nat.reduceMul, Nat.reduceSub, Nat.reduceDiv, Nat.reduceLeDiff, Nat.reduceLT, Nat.reduceBEq, Nat.reduceBNe, reduceCtorEq, Int.reduceLE, Int.reduceLT, Int.reduceToNat, decide_true, decide_false, errV]
theorem rapply_c {E : Nat → Option Value} {nm : ByteArray} {x y : Nat × Nat} {R : Ans} {i : Nat} (hi1 : 1 ≤ i) (hi : i < 7) (hne : ∀ j, 1 ≤ j → j < i → refN j ≠ nm) (heq : refN i = nm) (hf : DCall Tryz.prog E 18 [intD i, boxD x, boxD y] (.data (ansD R))) :
    DCall Tryz.prog E 20 [strD nm, boxD x, boxD y] (.data (ansD R)) := by
  refine dcall_of Tryz.func20 rfl (by kernel_rfl) Tryz.ntmps20 (by kernel_rfl) (by simp) (rs := [.cell 6 27, .tmp 7, .tmp 8]) rfl ?_
  rintro ⟨P, E, σ0, w0, base, n, kb⟩ rfl rfl rfl rfl
  have c7 : ((7 : Nat) : Int) = 7 := rfl
  simp -implicitDefEqProofs only [go_sem, Int.reduceEq, ↓reduceIte, Nat.reduceEqDiff, Nat.reduceAdd, Nat.reduceMul, Nat.reduceSub, Nat.reduceDiv, Nat.reduceLeDiff, Nat.reduceLT, Nat.reduceBEq, Nat.reduceBNe, reduceCtorEq, Int.reduceLE, Int.reduceLT, Int.reduceToNat, decide_true, decide_false]
  rw [stop_eq]
  refine dwp_loop (α := {k : Nat // 1 ≤ k ∧ k ≤ i}) (fun k => St.of [(0, .d (strD nm)), (4, .ptr 4 0), (5, .ptr 5 0), (6, .ptr 6 0), (9, .gs 11), (10, .d (intD k.1))]
    [(4, ⟨none, [.d (.v (.int .u64 x.1)), .d (.v (.int .u64 x.2))]⟩), (5, ⟨none, [.d (.v (.int .u64 y.1)), .d (.v (.int .u64 y.2))]⟩), (6, ⟨none, [.d (.v (.int .u64 0)), .d (.v (.int .u64 0))]⟩), (11, ⟨some (9, 1, false), refC⟩)]) (fun k => i - k.1) ⟨1, by omega, hi1⟩ (weak_of ?_ ?_ (by rfl)) (by kernel_rfl) (fun k => ?_)
  · have c1 : ((1 : Nat) : Int) = 1 := rfl
    simp -implicitDefEqProofs only [go_sem, Int.reduceEq, ↓reduceIte, Nat.reduceEqDiff, Nat.reduceAdd, Nat.reduceMul, Nat.reduceSub, Nat.reduceDiv, Nat.reduceLeDiff, Nat.reduceLT, Nat.reduceBEq, Nat.reduceBNe, reduceCtorEq, Int.reduceLE, Int.reduceLT, Int.reduceToNat, decide_true, decide_false, c1]
  · simp -implicitDefEqProofs only [go_sem, Int.reduceEq, ↓reduceIte, Nat.reduceEqDiff, Nat.reduceAdd, Nat.reduceMul, Nat.reduceSub, Nat.reduceDiv, Nat.reduceLeDiff, Nat.reduceLT, Nat.reduceBEq, Nat.reduceBNe, reduceCtorEq, Int.reduceLE, Int.reduceLT, Int.reduceToNat, decide_true, decide_false, refC]
  · obtain ⟨k, hk1, hk⟩ := k
    have eA : decide ((k : Int) < 7) = true := tD (by omega)
    have w1 : IntKind.i64.wrap ((k : Int) + 1) = ((k + 1 : Nat) : Int) := addN1 (by omega)
    have q1 : k < 7 := by omega
    by_cases hki : k = i
    · subst hki
      have e1 := tV (str_eq heq)
      have hx := ref_row (k := k) (by omega)
      simp -implicitDefEqProofs only [go_sem, Int.reduceEq, ↓reduceIte, Nat.reduceEqDiff, Nat.reduceAdd, Nat.reduceMul, Nat.reduceSub, Nat.reduceDiv, Nat.reduceLeDiff, Nat.reduceLT, Nat.reduceBEq, Nat.reduceBNe, reduceCtorEq, Int.reduceLE, Int.reduceLT, Int.reduceToNat, decide_true, decide_false, refC_len, c7, eA, q1, hx, e1]
      refine Call.intro hf ?_
      simp -implicitDefEqProofs only [go_sem, Int.reduceEq, ↓reduceIte, Nat.reduceEqDiff, Nat.reduceAdd, Nat.reduceMul, Nat.reduceSub, Nat.reduceDiv, Nat.reduceLeDiff, Nat.reduceLT, Nat.reduceBEq, Nat.reduceBNe, reduceCtorEq, Int.reduceLE, Int.reduceLT, Int.reduceToNat, decide_true, decide_false]
      refine fin_many ?_
      simp -implicitDefEqProofs only [go_sem, Int.reduceEq, ↓reduceIte, Nat.reduceEqDiff, Nat.reduceAdd, Nat.reduceMul, Nat.reduceSub, Nat.reduceDiv, Nat.reduceLeDiff, Nat.reduceLT, Nat.reduceBEq, Nat.reduceBNe, reduceCtorEq, Int.reduceLE, Int.reduceLT, Int.reduceToNat, decide_true, decide_false]
    · have e1 := str_ne (hne k hk1 (by omega))
      have hx := ref_row (k := k) (by omega)
      obtain ⟨k', hk'⟩ : ∃ k' : {k : Nat // 1 ≤ k ∧ k ≤ i}, k'.1 = k + 1 := ⟨⟨k + 1, by omega, by omega⟩, rfl⟩
      simp -implicitDefEqProofs only [go_sem, Int.reduceEq, ↓reduceIte, Nat.reduceEqDiff, Nat.reduceAdd, Nat.reduceMul, Nat.reduceSub, Nat.reduceDiv, Nat.reduceLeDiff, Nat.reduceLT, Nat.reduceBEq, Nat.reduceBNe, reduceCtorEq, Int.reduceLE, Int.reduceLT, Int.reduceToNat, decide_true, decide_false, refC_len, c7, eA, q1, hx, e1, w1]
      refine ⟨k', weak_of ?_ ?_ (by rfl), by simp only [hk']; omega⟩
      · simp -implicitDefEqProofs only [go_sem, Int.reduceEq, ↓reduceIte, Nat.reduceEqDiff, Nat.reduceAdd, Nat.reduceMul, Nat.reduceSub, Nat.reduceDiv, Nat.reduceLeDiff, Nat.reduceLT, Nat.reduceBEq, Nat.reduceBNe, reduceCtorEq, Int.reduceLE, Int.reduceLT, Int.reduceToNat, decide_true, decide_false, hk']
      · simp -implicitDefEqProofs only [go_sem, Int.reduceEq, ↓reduceIte, Nat.reduceEqDiff, Nat.reduceAdd, Nat.reduceMul, Nat.reduceSub, Nat.reduceDiv, Nat.reduceLeDiff, Nat.reduceLT, Nat.reduceBEq, Nat.reduceBNe, reduceCtorEq, Int.reduceLE, Int.reduceLT, Int.reduceToNat, decide_true, decide_false]
theorem rapply_n {E : Nat → Option Value} {nm : ByteArray} {x y : Nat × Nat} (hne : ∀ j, 1 ≤ j → j < 7 → refN j ≠ nm) :
    DCall Tryz.prog E 20 [strD nm, boxD x, boxD y] (.data (ansD ((0, 0), 7, nm))) := by
  refine dcall_of Tryz.func20 rfl (by kernel_rfl) Tryz.ntmps20 (by kernel_rfl) (by simp) (rs := [.cell 6 27, .tmp 7, .tmp 8]) rfl ?_
  rintro ⟨P, E, σ0, w0, base, n, kb⟩ rfl rfl rfl rfl
  have c7 : ((7 : Nat) : Int) = 7 := rfl
  simp -implicitDefEqProofs only [go_sem, Int.reduceEq, ↓reduceIte, Nat.reduceEqDiff, Nat.reduceAdd, Nat.reduceMul, Nat.reduceSub, Nat.reduceDiv, Nat.reduceLeDiff, Nat.reduceLT, Nat.reduceBEq, Nat.reduceBNe, reduceCtorEq, Int.reduceLE, Int.reduceLT, Int.reduceToNat, decide_true, decide_false]
  rw [stop_eq]
  refine dwp_loop (α := {k : Nat // 1 ≤ k ∧ k ≤ 7}) (fun k => St.of [(0, .d (strD nm)), (4, .ptr 4 0), (5, .ptr 5 0), (6, .ptr 6 0), (9, .gs 11), (10, .d (intD k.1))]
    [(4, ⟨none, [.d (.v (.int .u64 x.1)), .d (.v (.int .u64 x.2))]⟩), (5, ⟨none, [.d (.v (.int .u64 y.1)), .d (.v (.int .u64 y.2))]⟩), (6, ⟨none, [.d (.v (.int .u64 0)), .d (.v (.int .u64 0))]⟩), (11, ⟨some (9, 1, false), refC⟩)]) (fun k => 7 - k.1) ⟨1, by omega, by omega⟩ (weak_of ?_ ?_ (by rfl)) (by kernel_rfl) (fun k => ?_)
  · have c1 : ((1 : Nat) : Int) = 1 := rfl
    simp -implicitDefEqProofs only [go_sem, Int.reduceEq, ↓reduceIte, Nat.reduceEqDiff, Nat.reduceAdd, Nat.reduceMul, Nat.reduceSub, Nat.reduceDiv, Nat.reduceLeDiff, Nat.reduceLT, Nat.reduceBEq, Nat.reduceBNe, reduceCtorEq, Int.reduceLE, Int.reduceLT, Int.reduceToNat, decide_true, decide_false, c1]
  · simp -implicitDefEqProofs only [go_sem, Int.reduceEq, ↓reduceIte, Nat.reduceEqDiff, Nat.reduceAdd, Nat.reduceMul, Nat.reduceSub, Nat.reduceDiv, Nat.reduceLeDiff, Nat.reduceLT, Nat.reduceBEq, Nat.reduceBNe, reduceCtorEq, Int.reduceLE, Int.reduceLT, Int.reduceToNat, decide_true, decide_false, refC]
  · obtain ⟨k, hk1, hk⟩ := k
    by_cases hk7 : k < 7
    · have eA : decide ((k : Int) < 7) = true := tD (by omega)
      have w1 : IntKind.i64.wrap ((k : Int) + 1) = ((k + 1 : Nat) : Int) := addN1 (by omega)
      have e1 := str_ne (hne k hk1 hk7)
      have hx := ref_row (k := k) (by omega)
      obtain ⟨k', hk'⟩ : ∃ k' : {k : Nat // 1 ≤ k ∧ k ≤ 7}, k'.1 = k + 1 := ⟨⟨k + 1, by omega, by omega⟩, rfl⟩
      simp -implicitDefEqProofs only [go_sem, Int.reduceEq, ↓reduceIte, Nat.reduceEqDiff, Nat.reduceAdd, Nat.reduceMul, Nat.reduceSub, Nat.reduceDiv, Nat.reduceLeDiff, Nat.reduceLT, Nat.reduceBEq, Nat.reduceBNe, reduceCtorEq, Int.reduceLE, Int.reduceLT, Int.reduceToNat, decide_true, decide_false, refC_len, c7, eA, hk7, hx, e1, w1]
      refine ⟨k', weak_of ?_ ?_ (by rfl), by simp only [hk']; omega⟩
      · simp -implicitDefEqProofs only [go_sem, Int.reduceEq, ↓reduceIte, Nat.reduceEqDiff, Nat.reduceAdd, Nat.reduceMul, Nat.reduceSub, Nat.reduceDiv, Nat.reduceLeDiff, Nat.reduceLT, Nat.reduceBEq, Nat.reduceBNe, reduceCtorEq, Int.reduceLE, Int.reduceLT, Int.reduceToNat, decide_true, decide_false, hk']
      · simp -implicitDefEqProofs only [go_sem, Int.reduceEq, ↓reduceIte, Nat.reduceEqDiff, Nat.reduceAdd, Nat.reduceMul, Nat.reduceSub, Nat.reduceDiv, Nat.reduceLeDiff, Nat.reduceLT, Nat.reduceBEq, Nat.reduceBNe, reduceCtorEq, Int.reduceLE, Int.reduceLT, Int.reduceToNat, decide_true, decide_false]
    · have eA : decide ((k : Int) < 7) = false := fD (by omega)
      simp -implicitDefEqProofs only [go_sem, Int.reduceEq, ↓reduceIte, Nat.reduceEqDiff, Nat.reduceAdd, Nat.reduceMul, Nat.reduceSub, Nat.reduceDiv, Nat.reduceLeDiff, Nat.reduceLT, Nat.reduceBEq, Nat.reduceBNe, reduceCtorEq, Int.reduceLE, Int.reduceLT, Int.reduceToNat, decide_true, decide_false, refC_len, c7, eA]
      refine fin_many ?_
      simp -implicitDefEqProofs only [go_sem, Int.reduceEq, ↓reduceIte, Nat.reduceEqDiff, Nat.reduceAdd, Nat.reduceMul, Nat.reduceSub, Nat.reduceDiv, Nat.reduceLeDiff, Nat.reduceLT, Nat.reduceBEq, Nat.reduceBNe, reduceCtorEq, Int.reduceLE, Int.reduceLT, Int.reduceToNat, decide_true, decide_false]
end Go.Enc
