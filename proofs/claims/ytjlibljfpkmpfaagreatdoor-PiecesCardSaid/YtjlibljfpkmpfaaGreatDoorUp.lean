/-
  The walk through a script: each step of the kinds asked answers true.
-/
import Derived.Test.YtjlibljfpkmpfaaGreatDoorMk2
import Derived.Test.YtjlibljfpkmpfaaGreatDoorScr
set_option linter.unusedSimpArgs false
namespace Go.Enc
open Go.Proofs Go.Enc.Fl Go.Enc.Dg Go.Enc.Nu

set_option maxRecDepth 100000 in
theorem upto_c {E : Nat → Option Value} {ops : List OpD} (hl : ops.length ≤ maxLen) {lo hi : Int} (hp : ∀ o ∈ ops, lo ≤ o.kind → o.kind ≤ hi → DCall Tryz.prog E 12 [opD o] (.data (bD true))) :
    DCall Tryz.prog E 11 [scD ops, intD lo, intD hi] (.data (intD (-1))) := by
  refine dcall_of Tryz.func11 rfl (by kernel_rfl) Tryz.ntmps11 (by kernel_rfl) (by simp) (rs := [.tmp 6]) rfl ?_
  rintro ⟨P, E, σ0, w0, base, n, kb, df⟩ rfl rfl rfl rfl
  have hmax : maxLen = 9223372036854775807 := by decide
  simp -implicitDefEqProofs only [go_sem]
  rw [stop_eq]
  refine dwp_loop (α := {i : Nat // i ≤ ops.length}) (fun i => St.of [(0, .d (scD ops)), (1, .d (intD lo)), (2, .d (intD hi)), (7, .d (intD i.1))] []) (fun i => ops.length - i.1)
    ⟨0, Nat.zero_le _⟩ (weak_of ?_ ?_ rfl) (by kernel_rfl) (fun i => ?_)
  · simp -implicitDefEqProofs only [go_sem]
  · simp -implicitDefEqProofs only [go_sem]
  · obtain ⟨i, hi0⟩ := i
    by_cases hA : i < ops.length
    · obtain ⟨o, ho⟩ : ∃ o, ops[i]? = some o := ⟨ops[i], by simp [hA]⟩
      have hm := List.mem_of_getElem? ho
      have eA : decide ((i : Int) < (ops.length : Int)) = true := tD (by omega)
      by_cases hB : i < 1152921504606846976
      · have eB : decide ((i : Int) < 1152921504606846976) = true := tD (by omega)
        have w1 : IntKind.i64.wrap ((i : Int) + 1) = ((i + 1 : Nat) : Int) := addN1 (by omega)
        have hin : i * 9 < ops.length * 9 := by omega
        have hin2 : i * 9 + 9 ≤ ops.length * 9 := by omega
        have fin : ∃ x' : {i : Nat // i ≤ ops.length}, x'.1 = i + 1 := ⟨⟨i + 1, hA⟩, rfl⟩
        by_cases hk1 : lo ≤ o.kind
        · have eC : decide (o.kind ≥ lo) = true := tD hk1
          by_cases hk2 : o.kind ≤ hi
          · have eD : decide (o.kind ≤ hi) = true := tD hk2
            have hpl := hp o hm hk1 hk2
            simp -implicitDefEqProofs only [go_sem, eA, eB, flat_len, div9, hin, hin2, flat_at ho, OpD.cells, iD, uD, eC, eD]
            refine Call.intro hpl ?_
            simp -implicitDefEqProofs only [go_sem, w1]
            obtain ⟨x', hx'⟩ := fin
            refine ⟨x', weak_of ?_ ?_ rfl, by simp only [hx']; omega⟩
            · simp -implicitDefEqProofs only [go_sem, hx']
            · simp -implicitDefEqProofs only [go_sem]
          · have eD : decide (o.kind ≤ hi) = false := fD hk2
            simp -implicitDefEqProofs only [go_sem, eA, eB, flat_len, div9, hin, hin2, flat_at ho, OpD.cells, iD, uD, eC, eD, w1]
            obtain ⟨x', hx'⟩ := fin
            refine ⟨x', weak_of ?_ ?_ rfl, by simp only [hx']; omega⟩
            · simp -implicitDefEqProofs only [go_sem, hx']
            · simp -implicitDefEqProofs only [go_sem]
        · have eC : decide (o.kind ≥ lo) = false := fD hk1
          simp -implicitDefEqProofs only [go_sem, eA, eB, flat_len, div9, hin, hin2, flat_at ho, OpD.cells, iD, uD, eC, w1]
          obtain ⟨x', hx'⟩ := fin
          refine ⟨x', weak_of ?_ ?_ rfl, by simp only [hx']; omega⟩
          · simp -implicitDefEqProofs only [go_sem, hx']
          · simp -implicitDefEqProofs only [go_sem]
      · have eB : decide ((i : Int) < 1152921504606846976) = false := fD (by omega)
        simp -implicitDefEqProofs only [go_sem, eA, eB, flat_len, div9, finK]
    · have eA : decide ((i : Int) < (ops.length : Int)) = false := fD (by omega)
      simp -implicitDefEqProofs only [go_sem, eA, flat_len, div9, finK]
end Go.Enc
