/-
  plain.Make answers as the document's; boxes side by side; one step of the law; the walk through a script.
-/
import Derived.Test.YtjlibljfpkmpfaaGreatDoorMk
import Derived.Test.YtjlibljfpkmpfaaGreatDoorScr
set_option linter.unusedSimpArgs false
namespace Go.Enc
open Go.Proofs Go.Enc.Fl Go.Enc.Dg Go.Enc.Nu

abbrev sD (s : ByteArray) : D := .v (.string s)
set_option maxRecDepth 100000 in
theorem pmake_k {E : Nat → Option Value} {lo hi : Nat} {r : Nat × Nat} {e : D} {n : Int} {s : ByteArray} (hm : DCall Tryz.prog E 30 [flD lo, flD hi] (.data (.tup [ivD r, e]))) (hc : DCall Tryz.prog E 32 [e] (.data (.tup [intD n, sD s]))) :
    DCall Tryz.prog E 13 [boxD (lo, hi)] (.data (.tup [boxD r, intD n])) := by
  refine dcall_of Tryz.func13 rfl (by kernel_rfl) Tryz.ntmps13 (by kernel_rfl) (by simp) (rs := [.cell 2 32, .tmp 3]) rfl ?_
  rintro ⟨P, E, σ0, w0, base, n, kb, df⟩ rfl rfl rfl rfl
  simp -implicitDefEqProofs only [go_sem]
  refine drawn_intro (by kernel_rfl) (by kernel_rfl) (by kernel_rfl) ?_
  simp -implicitDefEqProofs only [go_sem]
  refine Call.intro (float_c _ lo) ?_
  simp -implicitDefEqProofs only [go_sem]
  refine Call.intro (float_c _ hi) ?_
  simp -implicitDefEqProofs only [go_sem]
  refine Call.intro hm ?_
  simp -implicitDefEqProofs only [go_sem]
  refine Call.intro hc ?_
  simp -implicitDefEqProofs only [go_sem]
  refine Call.intro (pbox_c _ r) ?_
  simp -implicitDefEqProofs only [go_sem]
  refine fin_many ?_
  simp -implicitDefEqProofs only [go_sem]
set_option maxRecDepth 100000 in
theorem pmake_c {E : Nat → Option Value} {q : Nat → Addr} (hq : Sent E q) {lo hi : Nat} (h1 : lo < 18446744073709551616) (h2 : hi < 18446744073709551616) : DCall Tryz.prog E 13 [boxD (lo, hi)] (.data (.tup [boxD (makeB lo hi).1, intD (makeB lo hi).2])) := by
  have hm := imake_c hq h1 h2
  obtain ⟨c1, c2⟩ := makeB_cases h1 h2
  unfold makeP at hm
  by_cases h : plainB lo = false ∨ plainB hi = false
  · rw [if_pos h] at hm
    rw [c1 h]
    exact pmake_k hm (code_sent hq (i := 0) (by decide))
  · rw [if_neg h] at hm
    by_cases h' : idx hi < idx lo
    · rw [if_pos h'] at hm
      rw [(c2 h).1 h']
      exact pmake_k hm (code_sent hq (i := 1) (by decide))
    · rw [if_neg h'] at hm
      rw [(c2 h).2 h']
      exact pmake_k hm (code_nil E)
set_option maxRecDepth 100000 in
theorem lbox_c (E : Nat → Option Value) (x : Nat × Nat) : DCall Tryz.prog E 14 [boxD x] (.data (boxD x)) := by
  refine dcall_of Tryz.func14 rfl (by kernel_rfl) Tryz.ntmps14 (by kernel_rfl) (by simp) (rs := [.cell 2 32]) rfl ?_
  rintro ⟨P, E, σ0, w0, base, n, kb, df⟩ rfl rfl rfl rfl
  simp -implicitDefEqProofs only [go_sem]
set_option maxRecDepth 100000 in
theorem same_c (E : Nat → Option Value) (x : Nat × Nat) : DCall Tryz.prog E 16 [boxD x, boxD x] (.data (bD true)) := by
  refine dcall_of Tryz.func16 rfl (by kernel_rfl) Tryz.ntmps16 (by kernel_rfl) (by simp) (rs := [.tmp 4]) rfl ?_
  rintro ⟨P, E, σ0, w0, base, n, kb, df⟩ rfl rfl rfl rfl
  have e1 := tB (beqT (show (x.1 : Int) = x.1 from rfl))
  have e2 := tB (beqT (show (x.2 : Int) = x.2 from rfl))
  simp -implicitDefEqProofs only [go_sem, beq_self_eq_true, finK]
set_option maxRecDepth 100000 in
theorem plays_make {E : Nat → Option Value} {q : Nat → Addr} (hq : Sent E q) {o : OpD} (hw : o.Wf) (hk : o.kind = 1) : DCall Tryz.prog E 12 [opD o] (.data (bD true)) := by
  have hm := pmake_c hq hw.xl hw.xh
  have hr := make_c E hw.xl hw.xh
  refine dcall_of Tryz.func12 rfl (by kernel_rfl) Tryz.ntmps12 (by kernel_rfl) (by simp) (rs := [.tmp 2]) rfl ?_
  rintro ⟨P, E, σ0, w0, base, n, kb, df⟩ rfl rfl rfl rfl
  simp -implicitDefEqProofs only [go_sem, OpD.cells, iD, uD, hk, beq_self_eq_true]
  refine Call.intro (lbox_c _ (o.xl, o.xh)) ?_
  simp -implicitDefEqProofs only [go_sem]
  refine Call.intro hm ?_
  simp -implicitDefEqProofs only [go_sem]
  refine Call.intro hr ?_
  simp -implicitDefEqProofs only [go_sem]
  refine Call.intro (same_c _ _) ?_
  simp -implicitDefEqProofs only [go_sem, beq_self_eq_true, finK]
end Go.Enc
