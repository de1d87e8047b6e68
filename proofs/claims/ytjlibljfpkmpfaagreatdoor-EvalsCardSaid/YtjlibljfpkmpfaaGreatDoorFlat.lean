/-
  A script's rows.
-/
import Derived.Test.YtjlibljfpkmpfaaGreatDoorRd
set_option linter.unusedSimpArgs false
namespace Go.Enc
open Go.Proofs

abbrev opD (o : OpD) : D := .agg o.cells
theorem OpD.len (o : OpD) : o.cells.length = 9 := rfl
theorem flat_len (ops : List OpD) : (ops.flatMap OpD.cells).length = ops.length * 9 := by
  induction ops with
  | nil => rfl
  | cons o ops ih => simp only [List.flatMap_cons, List.length_append, ih, OpD.len, List.length_cons, Nat.add_mul]; omega
theorem flat_at : ∀ {ops : List OpD} {i : Nat} {o : OpD}, ops[i]? = some o → ((ops.flatMap OpD.cells).drop (i * 9)).take 9 = o.cells
  | [], i, o, h => by simp at h
  | a :: ops, 0, o, h => by
    simp only [List.getElem?_cons_zero, Option.some.injEq] at h
    subst h
    rw [Nat.zero_mul, List.drop_zero, List.flatMap_cons, List.take_append_of_le_length (by simp [OpD.len])]
    exact List.take_of_length_le (by simp [OpD.len])
  | a :: ops, i + 1, o, h => by
    simp only [List.getElem?_cons_succ] at h
    rw [List.flatMap_cons, Nat.add_mul, Nat.one_mul, Nat.add_comm, ← List.drop_drop, List.drop_left' (OpD.len a)]
    exact flat_at h
/-- A script's datum. -/
abbrev scD (ops : List OpD) : D := .sl 9 (ops.flatMap OpD.cells)
theorem div9 (n : Nat) : n * 9 / 9 = n := Nat.mul_div_cancel _ (by decide)
end Go.Enc
