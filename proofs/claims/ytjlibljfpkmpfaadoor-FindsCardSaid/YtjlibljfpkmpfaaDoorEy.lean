/-
  Eval by what its two operations do; which intervals Roots drops.
-/
import Derived.Test.YtjlibljfpkmpfaaDoorEw
set_option linter.unusedSimpArgs false
set_option maxRecDepth 100000
namespace Go.Enc
open Go.Proofs Go.Enc.Nu Go.Enc.Fl

section
variable {E : Nat → Option Value} {q : Nat → Addr} {l : List Nat} {X : Nat × Nat} {M A : Nat × Nat → Nat × Nat → AnsO}
theorem evO_end {j : Nat} (hj : j + 1 < l.length) (h : (evO M A l X (j + 1)).2 ≠ none) : evO M A l X (l.length - 1) = evO M A l X (j + 1) := by
  have := evO_stop h (l.length - 1 - (j + 1))
  rwa [show j + 1 + (l.length - 1 - (j + 1)) = l.length - 1 by omega] at this
theorem geZ' (k : Nat) : decide ((k : Int) ≥ 0) = true := decide_eq_true (by omega)
theorem ieval_o (hq : Sent E q) (O : TwoOps E M A) (hl : ∀ x ∈ l, x < 18446744073709551616) (hlen : l.length ≤ 1152921504606846976) (hr : rightB l = 0) (gX : Gd X) :
    DCall Tryd.prog E 76 [fsD l, ivD X] (.data (.tup [ivD (evO M A l X (l.length - 1)).1, errO (evO M A l X (l.length - 1)).2])) := by
  have hri := iright_c hq hl hlen
  obtain ⟨h1, h2, h3⟩ := rightB_ok hr
  have e0 : errR q (rightB l) = .v .nilIface := by rw [hr]; rfl
  rw [e0] at hri
  have hml : (l.map flD).length = l.length := List.length_map _
  obtain ⟨x0, hx0⟩ := get_of_lt (l := l) (i := l.length - 1) (by omega)
  have ap0 := add_pos (hl x0 (List.mem_of_getElem? hx0)) (h3 x0 (List.mem_of_getElem? hx0))
  have ev0 : evO M A l X 0 = (ptF x0, none) := by show (ptF (coF l (l.length - 1)), _) = _; rw [coF_get hx0]
  have wn1 : IntKind.i64.wrap ((l.length : Int) - 1) = ((l.length - 1 : Nat) : Int) := subN1 (by omega)
  have w2 : IntKind.i64.wrap ((l.length : Int) - 2) = (l.length : Int) - 2 := w64 (by omega)
  have hA0 : l.length - 1 < l.length := by omega
  have hin := fun j hj => evO_in (M := M) (A := A) (X := X) O hl hr gX j hj
  refine dcall_of Tryd.func76 rfl (by kernel_rfl) Tryd.ntmps76 (by kernel_rfl) (by simp) (rs := [.cell 4 67, .tmp 5]) rfl ?_
  rintro ⟨P, E, σ0, w0, base, n, kb, df⟩ rfl rfl rfl rfl
  simp -implicitDefEqProofs only [go_sem]
  refine Call.intro hri ?_
  simp -implicitDefEqProofs only [go_sem, hml, div1, wn1, w2, hA0, fl_get hx0, ap0]
  rw [stop_eq]
  refine dwp_loop (α := {j : Nat // j < l.length ∧ (evO M A l X j).2 = none}) (fun j => St.of [(0, .d (fsD l)), (3, .ptr 3 0), (4, .ptr 4 0), (8, .ptr 8 0), (9, .d (intD ((l.length : Int) - 2 - (j.1 : Int))))]
    [(3, ⟨none, [.d (flD X.1), .d (flD X.2)]⟩), (4, ⟨none, [.d (flD 0), .d (flD 0)]⟩), (8, ⟨none, [.d (flD (evO M A l X j.1).1.1), .d (flD (evO M A l X j.1).1.2)]⟩)]) (fun j => l.length - j.1)
    ⟨0, by omega, rfl⟩ (weak_of ?_ ?_ rfl) (by kernel_rfl) (fun j => ?_)
  · simp -implicitDefEqProofs only [go_sem, Int.sub_zero]
  · simp -implicitDefEqProofs only [go_sem, ev0, ptF]
  · obtain ⟨j, hj, z0⟩ := j
    have gz := ((hin j hj).1 z0).1
    by_cases hA : j + 1 < l.length
    · obtain ⟨k, hk⟩ : ∃ k : Nat, l.length - 2 - j = k := ⟨_, rfl⟩
      obtain ⟨x, hx⟩ := get_of_lt (l := l) (i := k) (by omega)
      have hkx : coF l (l.length - 2 - j) = x := by rw [hk]; exact coF_get hx
      have gp := ptF_gd (hl x (List.mem_of_getElem? hx)) (h3 x (List.mem_of_getElem? hx))
      have ap := add_pos (hl x (List.mem_of_getElem? hx)) (h3 x (List.mem_of_getElem? hx))
      have hkI : (l.length : Int) - 2 - (j : Int) = (k : Int) := by omega
      have hkA : k < l.length := by omega
      have eA : decide ((k : Int) ≥ 0) = true := geZ' k
      have w1 : IntKind.i64.wrap ((k : Int) - 1) = (l.length : Int) - 2 - ((j + 1 : Nat) : Int) := by rw [w64 (by omega)]; omega
      have hend := evO_end (M := M) (A := A) (X := X) hA
      have hi1 := hin (j + 1) hA
      have snext : evO M A l X (j + 1) = if (M (evO M A l X j).1 X).2 = none then A (M (evO M A l X j).1 X).1 (ptF x) else M (evO M A l X j).1 X := by
        show (if (evO M A l X j).2 = none then (if (M (evO M A l X j).1 X).2 = none then A (M (evO M A l X j).1 X).1 (ptF (coF l (l.length - 2 - j))) else M (evO M A l X j).1 X) else evO M A l X j) = _
        rw [if_pos z0, hkx]
      obtain ⟨sm, sm1, sm2⟩ := O.m _ _ gz gX
      have sa := fun hm => (O.a _ _ (sm1 hm).1 gp).1
      generalize M (evO M A l X j).1 X = Mm at *
      generalize A Mm.1 (ptF x) = Aa at *
      simp -implicitDefEqProofs only [go_sem, hkI, eA]
      refine Call.intro sm ?_
      obtain ⟨⟨m1, m2⟩, mo⟩ := Mm
      cases mo with
      | none =>
        rw [if_pos rfl] at snext
        have sa := sa rfl
        simp only [ptF] at sa
        simp -implicitDefEqProofs only [go_sem, errO, hml, hkI, hkA, fl_get hx, ap]
        refine Call.intro sa ?_
        obtain ⟨⟨a1, a2⟩, ao⟩ := Aa
        cases ao with
        | none =>
          obtain ⟨j', hj'⟩ : ∃ j' : {j : Nat // j < l.length ∧ (evO M A l X j).2 = none}, j'.1 = j + 1 := ⟨⟨j + 1, hA, by rw [snext]⟩, rfl⟩
          simp -implicitDefEqProofs only [go_sem, errO, hkI, w1]
          refine ⟨j', weak_of ?_ ?_ rfl, by simp only [hj']; omega⟩
          · simp -implicitDefEqProofs only [go_sem, hj', w1]
          · simp -implicitDefEqProofs only [go_sem, hj', snext]
        | some p =>
          obtain ⟨s, d⟩ := p
          have hfin := hend (by rw [snext]; simp)
          have h00 := hi1.2 (by rw [snext]; simp)
          rw [snext] at hfin h00
          simp only at h00
          rw [hfin, h00]
          simp -implicitDefEqProofs only [go_sem, errO, hkI]
          refine fin_many ?_
          simp -implicitDefEqProofs only [go_sem]
      | some p =>
        obtain ⟨s, d⟩ := p
        rw [if_neg (by simp)] at snext
        have hfin := hend (by rw [snext]; simp)
        have h00 := hi1.2 (by rw [snext]; simp)
        rw [snext] at hfin h00
        simp only at h00
        rw [hfin, h00]
        simp -implicitDefEqProofs only [go_sem, errO, hkI]
        refine fin_many ?_
        simp -implicitDefEqProofs only [go_sem]
    · have eA : decide ((l.length : Int) - 2 - (j : Int) ≥ 0) = false := fD (by omega)
      have hj1 : j = l.length - 1 := by omega
      subst hj1
      have hE0 : errO (evO M A l X (l.length - 1)).2 = .v .nilIface := by rw [z0]; rfl
      rw [hE0]
      simp -implicitDefEqProofs only [go_sem, eA]
      refine fin_many ?_
      simp -implicitDefEqProofs only [go_sem]
/-- Which intervals are dropped: those whose values hold no nought. -/
def drO (M A : Nat × Nat → Nat × Nat → AnsO) (l : List Nat) (X : Nat × Nat) : Bool := decide ((evO M A l X (l.length - 1)).2 = none) && !(decide (idx (evO M A l X (l.length - 1)).1.1 ≤ 0) && decide (0 ≤ idx (evO M A l X (l.length - 1)).1.2))
theorem dr_ok (hq : Sent E q) (O : TwoOps E M A) (hl : ∀ x ∈ l, x < 18446744073709551616) (hlen : l.length ≤ 1152921504606846976) (hr : rightB l = 0) : DrOk E l (drO M A l) := fun X g => by
  obtain ⟨h1, _, _⟩ := rightB_ok hr
  have hc := ieval_o hq O hl hlen hr g
  obtain ⟨i1, i2⟩ := evO_in (M := M) (A := A) O hl hr g (l.length - 1) (by omega)
  unfold drO
  refine ⟨_, _, hc, ?_⟩
  cases ho : (evO M A l X (l.length - 1)).2 with
  | none =>
    obtain ⟨gd, _⟩ := i1 ho
    exact .inl ⟨rfl, (plainB_num gd.p1).num, (plainB_num gd.p2).num, by simp⟩
  | some p => exact .inr ⟨.inr ⟨p.1, p.2, rfl⟩, by simp⟩
/-- An interval that holds a root is not dropped. -/
theorem dr_root (O : TwoOps E M A) (hl : ∀ x ∈ l, x < 18446744073709551616) (hr : rightB l = 0) (g : Gd X) {t : Rat} (ht : In X t) (h0 : hor l t (l.length - 1) = 0) : drO M A l X = false := by
  obtain ⟨h1, _, _⟩ := rightB_ok hr
  obtain ⟨i1, i2⟩ := evO_in (M := M) (A := A) O hl hr g (l.length - 1) (by omega)
  unfold drO
  cases ho : (evO M A l X (l.length - 1)).2 with
  | none =>
    obtain ⟨_, c⟩ := i1 ho
    have := c t ht
    rw [h0] at this
    obtain ⟨a, b⟩ := this
    rw [← v_zero] at a b
    rw [decide_eq_true (v_le_iff.1 a), decide_eq_true (v_le_iff.1 b)]
    rfl
  | some p => simp
/-- The pieces hold what their interval holds, where dropped intervals do not. -/
theorem pcs_in {dr : Nat × Nat → Bool} {t : Rat} (hd : ∀ X, Gd X → In X t → dr X = false) : ∀ (d : Nat) (X : Nat × Nat), Gd X → In X t → ∃ Y, Y ∈ pcs dr d X ∧ In Y t
  | 0, X, g, h => ⟨X, by unfold pcs; rw [if_neg (by rw [hd X g h]; decide)]; simp, h⟩
  | d + 1, X, g, h => by
    have e : pcs dr (d + 1) X = if goB X = true then pcs dr d (X.1, posB (midB X)) ++ pcs dr d (posB (midB X), X.2) else [X] := by
      show (if _ then _ else _) = _
      rw [if_neg (by rw [hd X g h]; decide)]
    rw [e]
    by_cases hg : goB X = true
    · rw [if_pos hg]
      obtain ⟨_, _, Md⟩ := mid_of g
      have gl := go_left g hg Md.lt
      have gr := go_right g hg Md.lt
      rcases Rat.le_total (a := t) (b := v (idx (posB (midB X)))) with h1 | h1
      · obtain ⟨Y, hY, hi⟩ := pcs_in hd d _ gl ⟨h.1, h1⟩
        exact ⟨Y, List.mem_append_left _ hY, hi⟩
      · obtain ⟨Y, hY, hi⟩ := pcs_in hd d _ gr ⟨h1, h.2⟩
        exact ⟨Y, List.mem_append_right _ hY, hi⟩
    · rw [if_neg hg]
      exact ⟨X, by simp, h⟩
theorem pcs_gd {dr : Nat × Nat → Bool} : ∀ (d : Nat) (X : Nat × Nat), Gd X → ∀ Y ∈ pcs dr d X, Gd Y
  | 0, X, g, Y, h => by
    unfold pcs at h
    split at h
    · cases h
    · rw [List.mem_singleton.1 h]; exact g
  | d + 1, X, g, Y, h => by
    unfold pcs at h
    split at h
    · cases h
    · split at h
      · rename_i hg
        obtain ⟨_, _, Md⟩ := mid_of g
        rcases List.mem_append.1 h with h | h
        · exact pcs_gd d _ (go_left g hg Md.lt) Y h
        · exact pcs_gd d _ (go_right g hg Md.lt) Y h
      · rw [List.mem_singleton.1 h]; exact g
end
end Go.Enc
