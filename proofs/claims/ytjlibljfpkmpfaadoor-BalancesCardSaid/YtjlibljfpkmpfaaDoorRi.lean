/-
  A polynomial's numbers as data; may they be one's?
-/
import Derived.Test.YtjlibljfpkmpfaaDoorCn
import Derived.Test.YtjlibljfpkmpfaaDoorScr
set_option linter.unusedSimpArgs false
set_option maxRecDepth 100000
namespace Go.Enc
open Go.Proofs Go.Enc.Dg Go.Enc.Nu Go.Enc.Fl

/-- Floats by their bits, as the program has them; as the document has them. -/
abbrev fsD (l : List Nat) : D := .sl 1 (l.map flD)
abbrev usD (l : List Nat) : D := .sl 1 (l.map uD)
theorem fl_get {l : List Nat} {i x : Nat} (h : l[i]? = some x) : (l.map flD)[i]? = some (flD x) := by rw [List.getElem?_map, h]; rfl
theorem us_get {l : List Nat} {i x : Nat} (h : l[i]? = some x) : (l.map uD)[i]? = some (.v (.int .u64 (x : Int))) := by rw [List.getElem?_map, h]; rfl
theorem div1 (n : Nat) : n / 1 = n := Nat.div_one n
/-- May these be a polynomial's numbers? -/
def rightB (l : List Nat) : Int := if l.length < 1 ∨ 9 < l.length then 8 else if ∀ x ∈ l, plainB x = true then 0 else 1
theorem rightB_ok {l : List Nat} (h : rightB l = 0) : 1 ≤ l.length ∧ l.length ≤ 9 ∧ ∀ x ∈ l, plainB x = true := by
  unfold rightB at h
  split at h
  · cases h
  · split at h
    · rename_i h1 h2; exact ⟨by omega, by omega, h2⟩
    · cases h
/-- What right hands back. -/
def errR (q : Nat → Addr) (n : Int) : D := if n = 0 then .v .nilIface else eD q (n - 1).toNat
theorem iright_c {E : Nat → Option Value} {q : Nat → Addr} (hq : Sent E q) {l : List Nat} (hl : ∀ x ∈ l, x < 18446744073709551616) (hlen : l.length ≤ 1152921504606846976) : DCall Tryd.prog E 49 [fsD l] (.data (errR q (rightB l))) := by
  refine dcall_of Tryd.func49 rfl (by kernel_rfl) Tryd.ntmps49 (by kernel_rfl) (by simp) (rs := [.tmp 2]) rfl ?_
  rintro ⟨P, E, σ0, w0, base, n, kb, df, G0⟩ rfl rfl rfl rfl
  have hml : (l.map flD).length = l.length := List.length_map _
  have e7 : E 7 = some (errV (q 7)) := hq.var 7 (by decide)
  have e0 : E 0 = some (errV (q 0)) := hq.var 0 (by decide)
  by_cases h1 : l.length < 1
  · have hr : rightB l = 8 := if_pos (.inl h1)
    have e1 : decide ((l.length : Int) < 1) = true := tD (by omega)
    have hE : errR q 8 = eD q 7 := rfl
    rw [hr, hE]
    simp -implicitDefEqProofs only [go_sem, hml, div1, e1, e7, errV, finK]
  have e1 : decide ((l.length : Int) < 1) = false := fD (by omega)
  by_cases h2 : 9 < l.length
  · have hr : rightB l = 8 := if_pos (.inr h2)
    have e2 : decide ((l.length : Int) > 9) = true := tD (by omega)
    have hE : errR q 8 = eD q 7 := rfl
    rw [hr, hE]
    simp -implicitDefEqProofs only [go_sem, hml, div1, e1, e2, e7, errV, finK]
  have e2 : decide ((l.length : Int) > 9) = false := fD (by omega)
  obtain ⟨R, hR⟩ : ∃ R, errR q (rightB l) = R := ⟨_, rfl⟩
  have hr : rightB l = if ∀ x ∈ l, plainB x = true then 0 else 1 := if_neg (by omega)
  rw [hR]
  simp -implicitDefEqProofs only [go_sem, hml, div1, e1, e2]
  rw [stop_eq]
  refine dwp_loop (α := {i : Nat // i ≤ l.length ∧ ∀ j x, j < i → l[j]? = some x → plainB x = true}) (fun i => St.of [(14, .d (fsD l)), (15, .d (intD l.length)), (16, .d (intD i.1))] []) (fun i => l.length - i.1)
    ⟨0, Nat.zero_le _, fun j x h _ => by omega⟩ (weak_of ?_ ?_ rfl) (by kernel_rfl) (fun i => ?_)
  · have c0 : ((0 : Nat) : Int) = 0 := rfl
    simp -implicitDefEqProofs only [go_sem, hml, div1, c0]
  · simp -implicitDefEqProofs only [go_sem]
  · obtain ⟨i, hi, hp⟩ := i
    by_cases hA : i < l.length
    · obtain ⟨x, hx⟩ := get_of_lt hA
      have hxl := hl x (List.mem_of_getElem? hx)
      have eA : decide ((i : Int) < (l.length : Int)) = true := tD (by omega)
      have w1 : IntKind.i64.wrap ((i : Int) + 1) = ((i + 1 : Nat) : Int) := addN1 (by omega)
      have pc := plain_c E hxl
      simp -implicitDefEqProofs only [go_sem, hml, div1, eA, hA, fl_get hx]
      refine Call.intro pc ?_
      cases hpx : plainB x
      · have hall : ¬ ∀ x ∈ l, plainB x = true := fun h => by rw [h x (List.mem_of_getElem? hx)] at hpx; cases hpx
        rw [if_neg hall] at hr
        rw [hr] at hR
        have hE : errR q 1 = eD q 0 := rfl
        rw [hE] at hR
        subst hR
        simp -implicitDefEqProofs only [go_sem, boolD, e0, errV, finK]
      · obtain ⟨i', hi'⟩ : ∃ i' : {i : Nat // i ≤ l.length ∧ ∀ j x, j < i → l[j]? = some x → plainB x = true}, i'.1 = i + 1 := ⟨⟨i + 1, hA, fun j y hj hy => by
          rcases Nat.lt_or_ge j i with h | h
          · exact hp j y h hy
          · have : j = i := by omega
            subst this
            rw [hx] at hy; cases hy; exact hpx⟩, rfl⟩
        simp -implicitDefEqProofs only [go_sem, boolD, w1]
        refine ⟨i', weak_of ?_ ?_ rfl, by simp only [hi']; omega⟩
        · simp -implicitDefEqProofs only [go_sem, hi']
        · simp -implicitDefEqProofs only [go_sem]
    · have eA : decide ((i : Int) < (l.length : Int)) = false := fD (by omega)
      have hall : ∀ x ∈ l, plainB x = true := fun x hx => by
        obtain ⟨j, hj⟩ := List.getElem?_of_mem hx
        exact hp j x (by have := lt_of_get hj; omega) hj
      rw [if_pos hall] at hr
      rw [hr] at hR
      have hE : errR q 0 = .v .nilIface := rfl
      rw [hE] at hR
      subst hR
      simp -implicitDefEqProofs only [go_sem, eA, finK]
end Go.Enc
