/-
  The judge, walked.
-/
import Derived.Test.YtjlibljfpkmpfaaGreatDoorSv45
set_option linter.unusedSimpArgs false
set_option maxRecDepth 100000
namespace Go.Enc
open Go.Proofs Go.Enc.Dg Go.Enc.Nu Go.Enc.Fl Go.RowKit
section
variable {LA LB : List (Nat × Nat)} {w : Int}
/-- Another shape. -/
theorem judge_shape (E : Nat → Option Value) (hA : LA.length ≤ 1000000) (hB : LB.length * 16 ≤ 140737488355328) (hs : shapB LA.length w LB.length = false) (p : Int) :
    DCall Tryz.prog E 75 [.sl 2 (boxC LA), intD w, .sl 2 (boxC LB), .v (.slice none 0 0), intD 8, intD p] (.data (bD true)) := by
  have h := shaped_c E hA hB w
  rw [hs] at h
  have e8 := tB (show ((8 : Int) == 8) = true from rfl)
  refine dcall_of Tryz.func75 rfl (by kernel_rfl) Tryz.ntmps75 (by kernel_rfl) (by simp) (rs := [.tmp 12]) rfl ?_
  rintro ⟨P, E, σ0, w0, base, n, kb, df, G0⟩ rfl rfl rfl rfl
  simp -implicitDefEqProofs only [go_sem]
  refine Call.intro h ?_
  simp -implicitDefEqProofs only [go_sem, e8, finK]
/-- Not fair. -/
theorem judge_range (E : Nat → Option Value) (hA : LA.length ≤ 1000000) (hB : LB.length * 16 ≤ 140737488355328) (bA : Bits LA) (bB : Bits LB) (hs : shapB LA.length w LB.length = true) (hr : (rangB LA && rangB LB) = false) (p : Int) :
    DCall Tryz.prog E 75 [.sl 2 (boxC LA), intD w, .sl 2 (boxC LB), .v (.slice none 0 0), intD 3, intD p] (.data (bD true)) := by
  have h := shaped_c E hA hB w
  rw [hs] at h
  have h1 := ranged_c E (L := LA) (by omega) bA
  have h2 := ranged_c E hB bB
  have e3 := tB (show ((3 : Int) == 3) = true from rfl)
  generalize rangB LA = r1 at *
  generalize rangB LB = r2 at *
  refine dcall_of Tryz.func75 rfl (by kernel_rfl) Tryz.ntmps75 (by kernel_rfl) (by simp) (rs := [.tmp 12]) rfl ?_
  rintro ⟨P, E, σ0, w0, base, n, kb, df, G0⟩ rfl rfl rfl rfl
  simp -implicitDefEqProofs only [go_sem]
  refine Call.intro h ?_
  simp -implicitDefEqProofs only [go_sem]
  refine Call.intro h1 ?_
  simp -implicitDefEqProofs only [go_sem]
  refine Call.intro h2 ?_
  cases r1
  · simp -implicitDefEqProofs only [go_sem, e3, finK]
  · rw [Bool.true_and] at hr
    subst hr
    simp -implicitDefEqProofs only [go_sem, e3, finK]
theorem normL_len (L : List (Nat × Nat)) : (normL L).length = L.length := by unfold normL; rw [List.length_map]
theorem normL_bits {L : List (Nat × Nat)} (h : Bits L) : Bits (normL L) := fun X hX => by
  unfold normL at hX
  rw [List.mem_map] at hX
  obtain ⟨Y, hY, rfl⟩ := hX
  have g := mk2_gd (h Y hY).1 (h Y hY).2
  exact ⟨g.l1, g.l2⟩
/-- Not sure. -/
theorem judge_sure (E : Nat → Option Value) {n : Nat} (hn : n ≤ 4) (hA : LA.length = n * n) (hB : LB.length = n) (bA : Bits LA) (bB : Bits LB) (hs : shapB LA.length w LB.length = true) (h1 : rangB LA = true) (h2 : rangB LB = true)
    (hu : sureB (fun i => (normL LA).getD i (0, 0)) (fun i => (normL LB).getD i (0, 0)) n = false) (p : Int) :
    DCall Tryz.prog E 75 [.sl 2 (boxC LA), intD w, .sl 2 (boxC LB), .v (.slice none 0 0), intD 9, intD p] (.data (bD true)) := by
  have h16 : n * n ≤ 16 := Nat.mul_le_mul hn hn
  have h := shaped_c E (L := LA) (L' := LB) (by omega) (by omega) w
  rw [hs] at h
  have r1 := ranged_c E (L := LA) (by omega) bA
  have r2 := ranged_c E (L := LB) (by omega) bB
  have m1 := normal_c E (L := LA) (by omega) bA
  have m2 := normal_c E (L := LB) (by omega) bB
  have su := sure_c E (LA := normL LA) (LB := normL LB) hn (by rw [normL_len, hA]) (by rw [normL_len, hB]) (normL_bits bA)
  rw [hu] at su
  rw [h1] at r1
  rw [h2] at r2
  have e9 := tB (show ((9 : Int) == 9) = true from rfl)
  refine dcall_of Tryz.func75 rfl (by kernel_rfl) Tryz.ntmps75 (by kernel_rfl) (by simp) (rs := [.tmp 12]) rfl ?_
  rintro ⟨P, E, σ0, w0, base, n, kb, df, G0⟩ rfl rfl rfl rfl
  simp -implicitDefEqProofs only [go_sem]
  refine Call.intro h ?_
  simp -implicitDefEqProofs only [go_sem]
  refine Call.intro r1 ?_
  simp -implicitDefEqProofs only [go_sem]
  refine Call.intro r2 ?_
  simp -implicitDefEqProofs only [go_sem]
  refine Call.intro m1 ?_
  simp -implicitDefEqProofs only [go_sem]
  refine Call.intro m2 ?_
  simp -implicitDefEqProofs only [go_sem]
  refine Call.intro su ?_
  simp -implicitDefEqProofs only [go_sem, e9, finK]
/-- An answer. -/
theorem judge_ok (E : Nat → Option Value) {n : Nat} (h1n : 1 ≤ n) (hn : n ≤ 4) {LO : List (Nat × Nat)} (hA : LA.length = n * n) (hB : LB.length = n) (hO : LO.length = n) (bA : Bits LA) (bB : Bits LB) (gO : ∀ X ∈ LO, Gd X) (hs : shapB LA.length w LB.length = true) (h1 : rangB LA = true) (h2 : rangB LB = true) (p : Int)
    (he : DCall Tryz.prog E 112 [.sl 2 (boxC (normL LA)), .sl 2 (boxC (normL LB)), .sl 2 (boxC LO), intD p] (.data (bD true)))
    (hna : sureB (fun i => (normL LA).getD i (0, 0)) (fun i => (normL LB).getD i (0, 0)) n = true → DCall Tryz.prog E 113 [.sl 2 (boxC LO)] (.data (bD true))) :
    DCall Tryz.prog E 75 [.sl 2 (boxC LA), intD w, .sl 2 (boxC LB), .sl 2 (boxC LO), intD 0, intD p] (.data (bD true)) := by
  have h16 : n * n ≤ 16 := Nat.mul_le_mul hn hn
  have h := shaped_c E (L := LA) (L' := LB) (by omega) (by omega) w
  rw [hs] at h
  have r1 := ranged_c E (L := LA) (by omega) bA
  have r2 := ranged_c E (L := LB) (by omega) bB
  have m1 := normal_c E (L := LA) (by omega) bA
  have m2 := normal_c E (L := LB) (by omega) bB
  have su := sure_c E (LA := normL LA) (LB := normL LB) hn (by rw [normL_len, hA]) (by rw [normL_len, hB]) (normL_bits bA)
  rw [h1] at r1
  rw [h2] at r2
  obtain ⟨u, hu⟩ : ∃ u, sureB (fun i => (normL LA).getD i (0, 0)) (fun i => (normL LB).getD i (0, 0)) n = u := ⟨_, rfl⟩
  rw [hu] at su hna
  have e9 := tV (show ((0 : Int) == 9) = false from rfl)
  have e0 := tV (show ((0 : Int) != 0) = false from rfl)
  have clO := boxC_lq LO
  have clB := boxC_lq (normL LB)
  rw [hO] at clO
  rw [normL_len, hB] at clB
  have d2 := div_two
  have enn := tV (show ((n : Int) != (n : Int)) = false by simp)
  have gE : ∀ i, i < n → LO[i]? = some (LO.getD i (0, 0)) := fun i h => getD_some (by omega)
  have hmax : maxLen = 9223372036854775807 := by decide
  have e00 : ((0 : Int) != 0) = false := rfl
  refine dcall_of Tryz.func75 rfl (by kernel_rfl) Tryz.ntmps75 (by kernel_rfl) (by simp) (rs := [.tmp 12]) rfl ?_
  rintro ⟨P, E, σ0, w0, base, n, kb, df, G0⟩ rfl rfl rfl rfl
  simp -implicitDefEqProofs only [go_sem]
  refine Call.intro h ?_
  simp -implicitDefEqProofs only [go_sem]
  refine Call.intro r1 ?_
  simp -implicitDefEqProofs only [go_sem]
  refine Call.intro r2 ?_
  simp -implicitDefEqProofs only [go_sem]
  refine Call.intro m1 ?_
  simp -implicitDefEqProofs only [go_sem]
  refine Call.intro m2 ?_
  simp -implicitDefEqProofs only [go_sem]
  refine Call.intro su ?_
  simp -implicitDefEqProofs only [go_sem, e9, e0, clO, clB, d2, enn]
  rw [stop_eq]
  refine dwp_loop (α := {i : Nat // i ≤ n}) (fun i => St.of [(0, .d (.sl 2 (boxC (normL LA)))), (2, .d (.sl 2 (boxC (normL LB)))), (3, .d (.sl 2 (boxC LO))), (5, .d (intD p)), (16, .d (bD u)), (17, .d (intD i.1))] []) (fun i => n - i.1)
    ⟨0, Nat.zero_le _⟩ (weak_of ?_ ?_ rfl) (by kernel_rfl) (fun i => ?_)
  · have c0 : ((0 : Nat) : Int) = 0 := rfl
    simp -implicitDefEqProofs only [go_sem, c0]
  · simp -implicitDefEqProofs only [go_sem]
  obtain ⟨i, hi⟩ := i
  by_cases hiA : i < n
  · have eA : decide ((i : Int) < (n : Int)) = true := tD (by omega)
    have w1 : IntKind.i64.wrap ((i : Int) + 1) = ((i + 1 : Nat) : Int) := addN1 (by omega)
    obtain ⟨i', hi'⟩ : ∃ i' : {i : Nat // i ≤ n}, i'.1 = i + 1 := ⟨⟨i + 1, hiA⟩, rfl⟩
    obtain ⟨X, hX⟩ : ∃ X, LO.getD i (0, 0) = X := ⟨_, rfl⟩
    have gX := gE i hiA
    rw [hX] at gX
    have tk := boxC_tq gX
    have q1 : i * 2 < n * 2 := by omega
    have q2 : i * 2 + 2 ≤ n * 2 := by omega
    have g := gO X (List.mem_of_getElem? gX)
    have hm := make_c E g.l1 g.l2
    have hM : makeB X.1 X.2 = ((X.1, X.2), 0) := by
      have := ((makeB_cases g.l1 g.l2).2 (by rw [g.p1, g.p2]; simp)).2 (by have := g.le; omega)
      rw [this, g.q1, g.q2]
    rw [hM] at hm
    obtain ⟨x1, x2⟩ := X
    simp -implicitDefEqProofs only [go_sem, eA, clO, d2, q1, q2, tk]
    refine Call.intro hm ?_
    simp -implicitDefEqProofs only [go_sem]
    refine drawn_intro (by kernel_rfl) (by kernel_rfl) (by kernel_rfl) ?_
    simp -implicitDefEqProofs only [go_sem, e00, clO, d2, q1, q2, tk, beq_self_eq_true, Bool.and_self, Bool.and_true, Bool.true_and, w1]
    refine ⟨i', weak_of ?_ ?_ rfl, by simp only [hi']; omega⟩
    · simp -implicitDefEqProofs only [go_sem, hi']
    · simp -implicitDefEqProofs only [go_sem]
  · have eA : decide ((i : Int) < (n : Int)) = false := fD (by omega)
    simp -implicitDefEqProofs only [go_sem, eA, clO, d2]
    refine Call.intro he ?_
    cases u with
    | false => simp -implicitDefEqProofs only [go_sem, finK]
    | true =>
      simp -implicitDefEqProofs only [go_sem]
      refine Call.intro (hna rfl) ?_
      simp -implicitDefEqProofs only [go_sem, finK]
end
end Go.Enc
