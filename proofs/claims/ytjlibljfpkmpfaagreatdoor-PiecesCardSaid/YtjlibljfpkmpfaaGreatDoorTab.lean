/-
  A world that meets the condition, the table of functions in it; an operation's step read.
-/
import Derived.Test.YtjlibljfpkmpfaaGreatDoorScr
import Derived.Test.YtjlibljfpkmpfaaGreatDoorRows
import Derived.LaidHandle
set_option linter.unusedSimpArgs false
namespace Go.Enc
open Go.Proofs Go.RowKit Go.ChangeShapes Go.Deep

def tabCells : List Value := [.string ⟨#[43]⟩, .func (.func 41) #[] #[], .string ⟨#[45]⟩, .func (.func 42) #[] #[], .string ⟨#[42]⟩, .func (.func 43) #[] #[],
  .string ⟨#[47]⟩, .func (.func 44) #[] #[], .string ⟨#[109, 101, 101, 116]⟩, .func (.func 40) #[] #[], .string ⟨#[104, 117, 108, 108]⟩, .func (.func 183) #[] #[]]
noncomputable def tabWorld (os : Os) : World :=
  let w0 := World.holding Tryz.prog os ⟨((texts.map fun s => Go.Obj.cells #[.string s] 235) ++ [Go.Obj.cells tabCells.toArray 61]).toArray, #[], []⟩
  { w0 with heap := setGlobal (setGlobal ((List.range 9).foldl (fun h g => setGlobal h g (errV ⟨low + g, 0, none⟩)) w0.heap) 11 (.iface 199 (.agg #[.pointer (some ⟨12, 61, none⟩)]))) 9 (.slice (some ⟨low + 9, 0, none⟩) 6 6) }
set_option maxRecDepth 100000 in
theorem tab_met (os : Os) : laidMetH Tryz.prog YtjlibljfpkmpfaaGreatDoor.Rows.makesRow.laid ((tabWorld os).forCall (fun _ _ => 0) ⟨#[], #[], []⟩).memory :=
  laidMetH_of_parts3 (fuel := 8) (laidMet_of_run' 8 (by kernel_rfl) (by kernel_rfl)) (by kernel_rfl) (by kernel_rfl)

section
variable {H : Type} {enc : TypeId × Value → H} {w : World} {held : Bool} {sp : Nat → Bool}
theorem one_take {cs : List Value} {i : Nat} {v : Value} (h : (cs.drop i).take 1 = [v]) : cs[i]? = some v := by
  cases hd : cs.drop i with
  | nil => rw [hd] at h; simp at h
  | cons x r =>
    rw [hd] at h
    simp at h
    have := List.getElem?_drop (xs := cs) (i := i) (j := 0)
    rw [hd] at this
    simp at this
    rw [← this, h]
end
end Go.Enc
