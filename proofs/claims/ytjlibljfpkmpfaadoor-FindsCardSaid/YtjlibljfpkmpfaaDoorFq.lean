/-
  One step of the law Finds: its last loop.
-/
import Derived.Test.YtjlibljfpkmpfaaDoorFo
set_option linter.unusedSimpArgs false
set_option maxRecDepth 100000
namespace Go.Enc
open Go.Proofs Go.Enc.Dg Go.Enc.Nu Go.Enc.Fl Go.RowKit

theorem boxF_cons (X : Nat × Nat) (L : List (Nat × Nat)) : boxC (X :: L) = .v (.int .u64 X.1) :: .v (.int .u64 X.2) :: boxC L := rfl
theorem boxF_len (L : List (Nat × Nat)) : (boxC L).length = L.length * 2 := by rw [boxC_len, Nat.mul_comm]
theorem boxF_at : ∀ {L : List (Nat × Nat)} {i : Nat} {X : Nat × Nat}, L[i]? = some X → ((boxC L).drop (i * 2)).take 2 = [.v (.int .u64 X.1), .v (.int .u64 X.2)]
  | [], i, X, h => by simp at h
  | Y :: L, 0, X, h => by
    simp only [List.getElem?_cons_zero, Option.some.injEq] at h
    subst h; rfl
  | Y :: L, i + 1, X, h => by
    simp only [List.getElem?_cons_succ] at h
    rw [boxF_cons, Nat.add_mul, Nat.one_mul]
    exact boxF_at (L := L) h
theorem fdiv2 (n : Nat) : n * 2 / 2 = n := Nat.mul_div_cancel _ (by decide)
/-- Is a number still looked for, behind so many boxes? -/
def fl (L : List (Nat × Nat)) (n : Int) (b : Bool) (j : Nat) : Bool := b && (L.take j).all fun Y => !hB Y n
theorem fl_succ {L : List (Nat × Nat)} {n : Int} {b : Bool} {j : Nat} {Y : Nat × Nat} (h : L[j]? = some Y) : fl L n b (j + 1) = (fl L n b j && !hB Y n) := by
  unfold fl
  rw [List.take_add_one, h]
  simp [List.all_append, Bool.and_assoc]
section
variable {E : Nat → Option Value} {q : Nat → Addr}
set_option maxHeartbeats 4000000 in
theorem finds_4 (o : OpD) {a b c' : Int} {L : List (Nat × Nat)} (hL : L.length ≤ 1000000) (hh : ∀ Y ∈ L, ∀ r ∈ [a, b, c'], DCall Tryd.prog E 15 [boxD Y, intD r] (.data (bD (hB Y r))))
    (hlaw : ∀ r ∈ [a, b, c'], fl L r (decide (r ≥ fiLo o) && decide (r ≤ fiHi o)) L.length = false) {C : Ctx} (hP : C.P = Tryd.prog) (hE : C.E = E) (hn : C.n = 174) (hk : C.kb = 0) {c : Code} (hcode : Tryd.f8.body = some c) :
    DC C (cutC 4 (cutC 2 (cutC 5 c).2).2).2 (Post C [.tmp 2] (.data (bD true))) (fS3 o a b c' L) := by
  have s1 := small5_c E o.b
  have q1 : pint .and .i64 (o.b.fdiv (2 ^ min 5 64)) 31 = some (.int .i64 (o.b.fdiv (2 ^ min 5 64) % 32)) := and_mask (k := 5) (by decide) (by decide)
  simp -implicitDefEqProofs only [go_sem, Option.some.injEq, Value.int.injEq, true_and] at q1
  have w1 : IntKind.i64.wrap (sm5 o.b - 1) = fiLo o := by rw [w64 (by unfold sm5; omega)]; rfl
  have w2 : IntKind.i64.wrap (sm5 o.b + (o.b.fdiv (2 ^ min 5 64)) % 32) = fiHi o := by rw [w64 (by unfold sm5; omega)]; rfl
  obtain ⟨rs, hrs⟩ : ∃ rs, [a, b, c'] = rs := ⟨_, rfl⟩
  have hr3 : rs.length = 3 := by rw [← hrs]; rfl
  have hlL := boxF_len L
  have hrow : [T.d (intD a), T.d (intD b), T.d (intD c')] = iT rs := by rw [← hrs]; rfl
  rw [hrs] at hh hlaw
  obtain ⟨P, E', σ0, w0, base, n, kb, df⟩ := C
  simp only at hP hE hn hk
  subst hP hE hn hk
  simp only [Tryd.f8, Option.some.injEq] at hcode
  subst hcode
  simp only [cutC]
  simp only [fS3, cellsO, OpD.cells, iD, uD]
  simp -implicitDefEqProofs only [go_sem]
  rw [stop_eq]
  refine dwp_loop (α := {i : Nat // i ≤ 3}) (fun i => St.of [(1, .ptr 1 0), (15, .d (.sl 2 (boxC L))), (128, .gs 128), (129, .d (intD 3)), (130, .d (intD i.1))] [(1, ⟨none, cellsO o⟩), (128, ⟨some (3, 1, false), iT rs⟩)]) (fun i => 3 - i.1)
    ⟨0, Nat.zero_le _⟩ (weak_of ?_ ?_ (by simp [refsOk, iT_refs, refIn, T.ref])) (by kernel_rfl) (fun i => ?_)
  · have c0 : ((0 : Nat) : Int) = 0 := rfl
    have c3 : ((3 : Nat) : Int) = 3 := rfl
    simp -implicitDefEqProofs only [go_sem, c0, c3]
  · simp -implicitDefEqProofs only [go_sem, cellsO, OpD.cells, iD, uD, ← hrow, intD]
  · obtain ⟨i, hi⟩ := i
    by_cases hA : i < 3
    · obtain ⟨r, hr⟩ : ∃ r, rs[i]? = some r := ⟨_, List.getElem?_eq_getElem (by omega)⟩
      have hrm := List.mem_of_getElem? hr
      have hg := iT_get hr
      have eA : decide ((i : Int) < 3) = true := tD (by omega)
      have w5 : IntKind.i64.wrap ((i : Int) + 1) = ((i + 1 : Nat) : Int) := addN1 (by omega)
      have hlr := hlaw r hrm
      obtain ⟨i', hi'⟩ : ∃ i' : {i : Nat // i ≤ 3}, i'.1 = i + 1 := ⟨⟨i + 1, hA⟩, rfl⟩
      obtain ⟨b0, hb0⟩ : ∃ b0, (decide (r ≥ fiLo o) && decide (r ≤ fiHi o)) = b0 := ⟨_, rfl⟩
      rw [hb0] at hlr
      simp -implicitDefEqProofs only [go_sem, cellsO, OpD.cells, iD, uD, iT_len, hr3, div1, eA, hA, hg]
      refine drawn_intro (by kernel_rfl) (by kernel_rfl) (by kernel_rfl) ?_
      simp -implicitDefEqProofs only [go_sem]
      refine Call.intro s1 ?_
      by_cases h1 : r ≥ fiLo o
      · have z1 := tBd (tD h1)
        have hf0 : fl L r b0 0 = decide (r ≤ fiHi o) := by unfold fl; rw [← hb0, decide_eq_true h1]; simp
        simp -implicitDefEqProofs only [go_sem, w1, z1]
        refine Call.intro s1 ?_
        simp -implicitDefEqProofs only [go_sem, q1, w2]
        rw [stop_eq]
        refine dwp_loop (α := {j : Nat // j ≤ L.length}) (fun j => St.of [(1, .ptr 1 0), (15, .d (.sl 2 (boxC L))), (19, .d (intD r)), (20, .d (bD (fl L r b0 j.1))), (21, .d (intD j.1)), (128, .gs 128), (129, .d (intD 3)), (130, .d (intD i))] [(1, ⟨none, cellsO o⟩), (128, ⟨some (3, 1, false), iT rs⟩)]) (fun j => L.length - j.1)
          ⟨0, Nat.zero_le _⟩ (weak_of ?_ ?_ (by simp [refsOk, iT_refs, refIn, T.ref])) (by kernel_rfl) (fun j => ?_)
        · have c0 : ((0 : Nat) : Int) = 0 := rfl
          simp -implicitDefEqProofs only [go_sem, c0, hf0]
        · simp -implicitDefEqProofs only [go_sem, cellsO, OpD.cells, iD, uD]
        · obtain ⟨j, hj⟩ := j
          by_cases hB1 : j < L.length ∧ fl L r b0 j = true
          · obtain ⟨hB1, hB2⟩ := hB1
            obtain ⟨Y, hY⟩ : ∃ Y, L[j]? = some Y := ⟨_, List.getElem?_eq_getElem hB1⟩
            have hx := boxF_at hY
            have hcall := hh Y (List.mem_of_getElem? hY) r hrm
            have eB := tBd (show decide ((j : Int) < (L.length : Int)) = true from tD (by omega))
            have zB := tV hB2
            have w6 : IntKind.i64.wrap ((j : Int) + 1) = ((j + 1 : Nat) : Int) := addN1 (by omega)
            have y1 : j * 2 < L.length * 2 := by omega
            have y2 : j * 2 + 2 ≤ L.length * 2 := by omega
            have hfs : fl L r b0 (j + 1) = !hB Y r := by rw [fl_succ hY, hB2, Bool.true_and]
            obtain ⟨j', hj'⟩ : ∃ j' : {j : Nat // j ≤ L.length}, j'.1 = j + 1 := ⟨⟨j + 1, hB1⟩, rfl⟩
            simp -implicitDefEqProofs only [go_sem, hlL, fdiv2, eB, zB, y1, y2, hx]
            refine Call.intro hcall ?_
            simp -implicitDefEqProofs only [go_sem, w6]
            refine ⟨j', weak_of ?_ ?_ (by simp [refsOk, iT_refs, refIn, T.ref]), by simp only [hj']; omega⟩
            · simp -implicitDefEqProofs only [go_sem, hj', hfs]
            · simp -implicitDefEqProofs only [go_sem]
          · have hfl : fl L r b0 j = false := by
              by_cases h : j < L.length
              · cases hc : fl L r b0 j
                · rfl
                · exact absurd ⟨h, hc⟩ hB1
              · rw [show j = L.length by omega]; exact hlr
            have zB := tV hfl
            by_cases h : j < L.length
            · have eB := tBd (show decide ((j : Int) < (L.length : Int)) = true from tD (by omega))
              simp -implicitDefEqProofs only [go_sem, hlL, fdiv2, eB, zB, w5]
              refine ⟨i', weak_of ?_ ?_ (by simp [refsOk, iT_refs, refIn, T.ref]), by simp only [hi']; omega⟩
              · simp -implicitDefEqProofs only [go_sem, hi']
              · simp -implicitDefEqProofs only [go_sem, cellsO, OpD.cells, iD, uD]
            · have eB := tV (show decide ((j : Int) < (L.length : Int)) = false from fD (by omega))
              simp -implicitDefEqProofs only [go_sem, hlL, fdiv2, eB, zB, w5]
              refine ⟨i', weak_of ?_ ?_ (by simp [refsOk, iT_refs, refIn, T.ref]), by simp only [hi']; omega⟩
              · simp -implicitDefEqProofs only [go_sem, hi']
              · simp -implicitDefEqProofs only [go_sem, cellsO, OpD.cells, iD, uD]
      · have z1 := tV (fD h1)
        have hf0 : fl L r b0 0 = false := by unfold fl; rw [← hb0, decide_eq_false h1]; simp
        simp -implicitDefEqProofs only [go_sem, w1, z1]
        rw [stop_eq]
        refine dwp_loop (α := {j : Nat // j ≤ L.length}) (fun j => St.of [(1, .ptr 1 0), (15, .d (.sl 2 (boxC L))), (19, .d (intD r)), (20, .d (bD (fl L r b0 j.1))), (21, .d (intD j.1)), (128, .gs 128), (129, .d (intD 3)), (130, .d (intD i))] [(1, ⟨none, cellsO o⟩), (128, ⟨some (3, 1, false), iT rs⟩)]) (fun j => L.length - j.1)
          ⟨0, Nat.zero_le _⟩ (weak_of ?_ ?_ (by simp [refsOk, iT_refs, refIn, T.ref])) (by kernel_rfl) (fun j => ?_)
        · have c0 : ((0 : Nat) : Int) = 0 := rfl
          simp -implicitDefEqProofs only [go_sem, c0, hf0]
        · simp -implicitDefEqProofs only [go_sem, cellsO, OpD.cells, iD, uD]
        · obtain ⟨j, hj⟩ := j
          by_cases hB1 : j < L.length ∧ fl L r b0 j = true
          · obtain ⟨hB1, hB2⟩ := hB1
            obtain ⟨Y, hY⟩ : ∃ Y, L[j]? = some Y := ⟨_, List.getElem?_eq_getElem hB1⟩
            have hx := boxF_at hY
            have hcall := hh Y (List.mem_of_getElem? hY) r hrm
            have eB := tBd (show decide ((j : Int) < (L.length : Int)) = true from tD (by omega))
            have zB := tV hB2
            have w6 : IntKind.i64.wrap ((j : Int) + 1) = ((j + 1 : Nat) : Int) := addN1 (by omega)
            have y1 : j * 2 < L.length * 2 := by omega
            have y2 : j * 2 + 2 ≤ L.length * 2 := by omega
            have hfs : fl L r b0 (j + 1) = !hB Y r := by rw [fl_succ hY, hB2, Bool.true_and]
            obtain ⟨j', hj'⟩ : ∃ j' : {j : Nat // j ≤ L.length}, j'.1 = j + 1 := ⟨⟨j + 1, hB1⟩, rfl⟩
            simp -implicitDefEqProofs only [go_sem, hlL, fdiv2, eB, zB, y1, y2, hx]
            refine Call.intro hcall ?_
            simp -implicitDefEqProofs only [go_sem, w6]
            refine ⟨j', weak_of ?_ ?_ (by simp [refsOk, iT_refs, refIn, T.ref]), by simp only [hj']; omega⟩
            · simp -implicitDefEqProofs only [go_sem, hj', hfs]
            · simp -implicitDefEqProofs only [go_sem]
          · have hfl : fl L r b0 j = false := by
              by_cases h : j < L.length
              · cases hc : fl L r b0 j
                · rfl
                · exact absurd ⟨h, hc⟩ hB1
              · rw [show j = L.length by omega]; exact hlr
            have zB := tV hfl
            by_cases h : j < L.length
            · have eB := tBd (show decide ((j : Int) < (L.length : Int)) = true from tD (by omega))
              simp -implicitDefEqProofs only [go_sem, hlL, fdiv2, eB, zB, w5]
              refine ⟨i', weak_of ?_ ?_ (by simp [refsOk, iT_refs, refIn, T.ref]), by simp only [hi']; omega⟩
              · simp -implicitDefEqProofs only [go_sem, hi']
              · simp -implicitDefEqProofs only [go_sem, cellsO, OpD.cells, iD, uD]
            · have eB := tV (show decide ((j : Int) < (L.length : Int)) = false from fD (by omega))
              simp -implicitDefEqProofs only [go_sem, hlL, fdiv2, eB, zB, w5]
              refine ⟨i', weak_of ?_ ?_ (by simp [refsOk, iT_refs, refIn, T.ref]), by simp only [hi']; omega⟩
              · simp -implicitDefEqProofs only [go_sem, hi']
              · simp -implicitDefEqProofs only [go_sem, cellsO, OpD.cells, iD, uD]
    · have eA : decide ((i : Int) < 3) = false := fD (by omega)
      simp -implicitDefEqProofs only [go_sem, eA, finK]
end
end Go.Enc
