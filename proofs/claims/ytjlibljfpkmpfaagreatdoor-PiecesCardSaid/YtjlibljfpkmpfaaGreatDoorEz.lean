/-
  A script's list of floats, as the program takes it; a copy of it.
  The document's Eval by contract; a step of kind 5 answers true.
  Eval answers as the document says: a step of kind 5 answers true.
-/
import Derived.Test.YtjlibljfpkmpfaaGreatDoorEv
import Derived.Test.YtjlibljfpkmpfaaGreatDoorPl
section
set_option linter.unusedSimpArgs false
set_option maxRecDepth 100000
namespace Go.Enc
open Go.Proofs Go.Enc.Dg Go.Enc.Nu Go.Enc.Fl

theorem floats_c (E : Nat → Option Value) {l : List Nat} (hlen : l.length * 8 ≤ 140737488355328) : DCall Tryz.prog E 66 [usD l] (.data (fsD l)) := by
  have hml : (l.map uD).length = l.length := List.length_map _
  refine dcall_of Tryz.func66 rfl (by kernel_rfl) Tryz.ntmps66 (by kernel_rfl) (by simp) (rs := [.tmp 2]) rfl ?_
  rintro ⟨P, E, σ0, w0, base, n, kb, df⟩ rfl rfl rfl rfl
  simp -implicitDefEqProofs only [go_sem, hml, div1]
  rw [stop_eq]
  refine dwp_nil 3 16 57 1 rfl rfl ?_
  refine dwp_loop (α := {i : Nat // i ≤ l.length}) (fun i => St.of [(0, .d (usD l)), (3, .gs 16), (6, .d (usD l)), (7, .d (intD l.length)), (8, .d (intD i.1))] [(16, ⟨some (57, 1, true), flT (l.take i.1)⟩)]) (fun i => l.length - i.1)
    ⟨0, Nat.zero_le _⟩ (weak_of ?_ ?_ rfl) (by kernel_rfl) (fun i => ?_)
  · have c0 : ((0 : Nat) : Int) = 0 := rfl
    simp -implicitDefEqProofs only [go_sem, upd, c0, hml, div1]
  · simp -implicitDefEqProofs only [go_sem, upd, flT, List.take_zero, List.map_nil]
  · obtain ⟨i, hi⟩ := i
    have htl : (l.take i).length = i := by rw [List.length_take]; omega
    by_cases hA : i < l.length
    · obtain ⟨x, hx⟩ := get_of_lt hA
      have eA : decide ((i : Int) < (l.length : Int)) = true := tD (by omega)
      have w1 : IntKind.i64.wrap ((i : Int) + 1) = ((i + 1 : Nat) : Int) := addN1 (by omega)
      have hmax : maxLen = 9223372036854775807 := by decide
      obtain ⟨i', hi'⟩ : ∃ i' : {i : Nat // i ≤ l.length}, i'.1 = i + 1 := ⟨⟨i + 1, hA⟩, rfl⟩
      simp -implicitDefEqProofs only [go_sem, hml, div1, eA, hA, us_get hx]
      refine Call.intro (float_n _ x) ?_
      simp -implicitDefEqProofs only [go_sem, flT_len, htl, w1, flkill_snoc, take_snoc hx]
      refine ⟨by omega, by omega, i', weak_of ?_ ?_ (by simp [refsOk, flT_refs, refIn, T.ref]), by simp only [hi']; omega⟩
      · simp -implicitDefEqProofs only [go_sem, hi']
      · simp -implicitDefEqProofs only [go_sem, hi']
    · have eA : decide ((i : Int) < (l.length : Int)) = false := fD (by omega)
      have ht : l.take i = l := List.take_of_length_le (by omega)
      simp -implicitDefEqProofs only [go_sem, hml, div1, eA, asDs_flT, ht, finK]
theorem asDs_us (l : List Nat) : asDs ((l.map uD).map T.d) = some (l.map uD) := asDs_map _
theorem copied_c (E : Nat → Option Value) {l : List Nat} (hlen : l.length * 8 ≤ 140737488355328) : DCall Tryz.prog E 24 [usD l] (.data (usD l)) := by
  have hml : (l.map uD).length = l.length := List.length_map _
  refine dcall_of Tryz.func24 rfl (by kernel_rfl) Tryz.ntmps24 (by kernel_rfl) (by simp) (rs := [.tmp 2]) rfl ?_
  rintro ⟨P, E, σ0, w0, base, n, kb, df⟩ rfl rfl rfl rfl
  have hmax : maxLen = 9223372036854775807 := by decide
  simp -implicitDefEqProofs only [go_sem, hml, div1, List.length_map]
  exact ⟨by omega, by omega⟩
end Go.Enc
end

section
set_option linter.unusedSimpArgs false
set_option maxRecDepth 100000
namespace Go.Enc
open Go.Proofs Go.Enc.Dg Go.Enc.Nu Go.Enc.Fl

section
variable {E : Nat → Option Value} {q : Nat → Addr} {l : List Nat} {x : Nat × Nat}
theorem ev_res (hq : Sent E q) (hl : ∀ x ∈ l, x < 18446744073709551616) (hr : rightB l = 0) {X : Nat × Nat} (gX : Gd X) : ∀ j, j < l.length → Res1 (evB (coef l) l.length X j)
  | 0, _ => by
    obtain ⟨h1, h2⟩ := ev_start (X := X) hl hr
    exact .inl ⟨h1, rfl, h2⟩
  | j + 1, hj => by
    have ih := ev_res hq hl hr gX j (by omega)
    by_cases h0 : (evB (coef l) l.length X j).2.1 = 0
    · have g : Gd (evB (coef l) l.length X j).1 := by
        rcases ih with ⟨_, _, g⟩ | ⟨g1, _, _⟩
        · exact g
        · omega
      have S := ev_step (E := E) hq hl hr gX hj h0 g
      rw [S.next]
      split
      · rename_i hm; exact (S.ma hm).2
      · exact S.m1
    · have : evB (coef l) l.length X (j + 1) = evB (coef l) l.length X j := evB_stop h0 1
      rw [this]; exact ih
theorem ev_name (hq : Sent E q) (hl : ∀ x ∈ l, x < 18446744073709551616) (hr : rightB l = 0) {X : Nat × Nat} (gX : Gd X) (j : Nat) (hj : j < l.length) (h0 : (evB (coef l) l.length X j).2.1 = 0) : (evB (coef l) l.length X j).2.2 = noS := by
  rcases ev_res hq hl hr gX j hj with ⟨_, h, _⟩ | ⟨g1, _, _⟩
  · exact h
  · omega
/-- The document's interval within a step. -/
def inB (R M A : Ans) : Nat → Nat × Nat
  | 0 => R.1
  | 1 => M.1
  | _ => A.1
theorem refM (E : Nat → Option Value) {r y : Nat × Nat} (g : Gd r) (y1 : y.1 < 18446744073709551616) (y2 : y.2 < 18446744073709551616) : DCall Tryz.prog E 18 [intD 5, boxD r, boxD y] (.data (ansD (mulB r (mk2 y)))) := by
  have := refop (x := r) (y := y) E 5 g.l1 g.l2 y1 y2
  rwa [mk2_id g] at this
theorem refA (E : Nat → Option Value) {r y : Nat × Nat} (g : Gd r) (g' : Gd y) : DCall Tryz.prog E 18 [intD 3, boxD r, boxD y] (.data (ansD (addB r y))) := by
  have := refop (x := r) (y := y) E 3 g.l1 g.l2 g'.l1 g'.l2
  rwa [mk2_id g, mk2_id g'] at this
theorem ev_ref (hq : Sent E q) (hl : ∀ x ∈ l, x < 18446744073709551616) (hr : rightB l = 0) (x1 : x.1 < 18446744073709551616) (x2 : x.2 < 18446744073709551616) {j c : Nat} (hj : j + 1 < l.length) (h0 : (evB (coef l) l.length (mk2 x) j).2.1 = 0) (g : Gd (evB (coef l) l.length (mk2 x) j).1) (hc : l[l.length - 2 - j]? = some c) :
    ∃ M A : Ans, DCall Tryz.prog E 18 [intD 5, boxD (evB (coef l) l.length (mk2 x) j).1, boxD x] (.data (ansD M)) ∧ Res1 M ∧ (M.2.1 = 0 → DCall Tryz.prog E 18 [intD 3, boxD M.1, boxD (ptB c)] (.data (ansD A)) ∧ Res1 A) ∧ evB (coef l) l.length (mk2 x) (j + 1) = if M.2.1 = 0 then A else M := by
  have gX := mk2_gd x1 x2
  have S := ev_step (E := E) hq hl hr gX hj h0 g
  have h3 := (rightB_ok hr).2.2
  have gp := pt_gd (hl c (List.mem_of_getElem? hc)) (h3 c (List.mem_of_getElem? hc))
  have hkx : coef l (l.length - 2 - j) = c := coef_get hc
  refine ⟨mulB (evB (coef l) l.length (mk2 x) j).1 (mk2 x), addB (mulB (evB (coef l) l.length (mk2 x) j).1 (mk2 x)).1 (ptB c), refM E g x1 x2, S.m1, fun hm => ?_, ?_⟩
  · have gm : Gd (mulB (evB (coef l) l.length (mk2 x) j).1 (mk2 x)).1 := by
      rcases S.m1 with ⟨_, _, gm⟩ | ⟨g1, _, _⟩
      · exact gm
      · omega
    refine ⟨refA E gm gp, ?_⟩
    have := (S.ma hm).2
    rwa [hkx] at this
  · have := S.next
    rwa [hkx] at this
theorem reval_c (hq : Sent E q) (hl : ∀ x ∈ l, x < 18446744073709551616) (hlen : l.length ≤ 1152921504606846976) (x1 : x.1 < 18446744073709551616) (x2 : x.2 < 18446744073709551616) : DCall Tryz.prog E 25 [usD l, boxD x] (.data (ansD (evalR l (mk2 x)))) := by
  have hri := rright_c E hl hlen
  have gX := mk2_gd x1 x2
  by_cases hr : rightB l = 0
  · obtain ⟨h1, h2, h3⟩ := rightB_ok hr
    have hR : evalR l (mk2 x) = evB (coef l) l.length (mk2 x) (l.length - 1) := if_pos hr
    have hname := ev_name hq hl hr gX (l.length - 1) (by omega)
    obtain ⟨R, hF⟩ : ∃ R, evB (coef l) l.length (mk2 x) (l.length - 1) = R := ⟨_, rfl⟩
    rw [hR, hF]
    rw [hr] at hri
    have hml : (l.map uD).length = l.length := List.length_map _
    obtain ⟨x0, hx0⟩ := get_of_lt (l := l) (i := l.length - 1) (by omega)
    have ev0 : evB (coef l) l.length (mk2 x) 0 = (ptB x0, 0, noS) := by show (ptB (coef l (l.length - 1)), _, _) = _; rw [coef_get hx0]
    have wn1 : IntKind.i64.wrap ((l.length : Int) - 1) = ((l.length - 1 : Nat) : Int) := subN1 (by omega)
    have w2 : IntKind.i64.wrap ((l.length : Int) - 2) = (l.length : Int) - 2 := w64 (by omega)
    have hA0 : l.length - 1 < l.length := by omega
    have n00 : ((0 : Int) != 0) = false := by decide
    refine dcall_of Tryz.func25 rfl (by kernel_rfl) Tryz.ntmps25 (by kernel_rfl) (by simp) (rs := [.cell 4 27, .tmp 5, .tmp 6]) rfl ?_
    rintro ⟨P, E, σ0, w0, base, n, kb, df⟩ rfl rfl rfl rfl
    simp -implicitDefEqProofs only [go_sem]
    refine Call.intro hri ?_
    simp -implicitDefEqProofs only [go_sem, n00, hml, div1, wn1, w2, hA0, us_get hx0]
    refine Call.intro (point_c _ x0) ?_
    simp -implicitDefEqProofs only [go_sem, hml, div1, wn1, w2]
    rw [stop_eq]
    refine dwp_loop (α := {j : Nat // j < l.length ∧ (evB (coef l) l.length (mk2 x) j).2.1 = 0 ∧ Gd (evB (coef l) l.length (mk2 x) j).1}) (fun j => St.of [(0, .d (usD l)), (3, .ptr 3 0), (4, .ptr 4 0), (8, .ptr 8 0), (9, .d (intD ((l.length : Int) - 2 - (j.1 : Int))))]
      [(3, ⟨none, [.d (.v (.int .u64 x.1)), .d (.v (.int .u64 x.2))]⟩), (4, ⟨none, [.d (.v (.int .u64 0)), .d (.v (.int .u64 0))]⟩), (8, ⟨none, [.d (.v (.int .u64 (evB (coef l) l.length (mk2 x) j.1).1.1)), .d (.v (.int .u64 (evB (coef l) l.length (mk2 x) j.1).1.2))]⟩)]) (fun j => l.length - j.1)
      ⟨0, by omega, ev_start hl hr⟩ (weak_of ?_ ?_ rfl) (by kernel_rfl) (fun j => ?_)
    · simp -implicitDefEqProofs only [go_sem, Int.sub_zero]
    · simp -implicitDefEqProofs only [go_sem, ev0, ptB]
    · obtain ⟨j, hj, z0, gz⟩ := j
      by_cases hA : j + 1 < l.length
      · obtain ⟨k, hk⟩ : ∃ k : Nat, l.length - 2 - j = k := ⟨_, rfl⟩
        obtain ⟨c, hx⟩ := get_of_lt (l := l) (i := k) (by omega)
        obtain ⟨M, A, opM, sm1, sma, snext⟩ := ev_ref (E := E) hq hl hr x1 x2 hA z0 gz (c := c) (by rw [hk]; exact hx)
        have hkI : (l.length : Int) - 2 - (j : Int) = (k : Int) := by omega
        have hkA : k < l.length := by omega
        have eA : decide ((k : Int) ≥ 0) = true := geZ k
        have w1 : IntKind.i64.wrap ((k : Int) - 1) = (l.length : Int) - 2 - ((j + 1 : Nat) : Int) := by rw [w64 (by omega)]; omega
        have hend := ev_end (X := mk2 x) hA
        have nM : ∀ {n : Int}, n ≠ 0 → (n != 0) = true := fun h => bneT h
        simp -implicitDefEqProofs only [go_sem, hkI, eA]
        rw [stop_eq]
        refine dwp_loop (α := {i : Nat // i ≤ 2 ∧ (1 ≤ i → M.2.1 = 0) ∧ (2 ≤ i → A.2.1 = 0)}) (fun i => St.of [(0, .d (usD l)), (3, .ptr 3 0), (4, .ptr 4 0), (8, .ptr 8 0), (9, .d (intD k)), (10, .d (intD (5 - 2 * (i.1 : Int))))]
          [(3, ⟨none, [.d (.v (.int .u64 x.1)), .d (.v (.int .u64 x.2))]⟩), (4, ⟨none, [.d (.v (.int .u64 0)), .d (.v (.int .u64 0))]⟩), (8, ⟨none, [.d (.v (.int .u64 (inB (evB (coef l) l.length (mk2 x) j) M A i.1).1)), .d (.v (.int .u64 (inB (evB (coef l) l.length (mk2 x) j) M A i.1).2))]⟩)]) (fun i => 2 - i.1)
          ⟨0, by omega, by omega, by omega⟩ (weak_of ?_ ?_ rfl) (by kernel_rfl) (fun i => ?_)
        · have c5 : (5 : Int) - 2 * ((0 : Nat) : Int) = 5 := by decide
          simp -implicitDefEqProofs only [go_sem, hkI, Int.mul_zero, Int.sub_zero]
        · simp -implicitDefEqProofs only [go_sem, inB]
        · obtain ⟨i, hi, i1, i2⟩ := i
          have hcase : i = 0 ∨ i = 1 ∨ i = 2 := by omega
          rcases hcase with hi0 | hi1 | hi2
          · have t5 : (5 : Int) - 2 * (i : Int) = 5 := by omega
            have hin : inB (evB (coef l) l.length (mk2 x) j) M A i = (evB (coef l) l.length (mk2 x) j).1 := by rw [hi0]; rfl
            have q53 := tB' (show decide ((5:Int) ≥ 3) = true by decide)
            simp -implicitDefEqProofs only [go_sem, t5, hin, Int.reduceBEq, q53]
            refine Call.intro opM ?_
            by_cases hm : M.2.1 = 0
            · have e0 : (M.2.1 != 0) = false := bneF hm
              have w5 : IntKind.i64.wrap (5 - 2) = 5 - 2 * (1 : Int) := by decide
              obtain ⟨i', hi'⟩ : ∃ i' : {i : Nat // i ≤ 2 ∧ (1 ≤ i → M.2.1 = 0) ∧ (2 ≤ i → A.2.1 = 0)}, i'.1 = 1 := ⟨⟨1, by omega, fun _ => hm, fun h => by omega⟩, rfl⟩
              simp -implicitDefEqProofs only [go_sem, t5, e0]
              refine ⟨i', weak_of ?_ ?_ rfl, by simp only [hi']; omega⟩
              · have w6 : IntKind.i64.wrap (5 - 2) = 3 := by decide
                have w7 : (5 : Int) - 2 * ((1 : Nat) : Int) = 3 := by decide
                simp -implicitDefEqProofs only [go_sem, t5, hi', w6, w7]
              · simp -implicitDefEqProofs only [go_sem, hi', inB]
            · have e0 := tV (nM hm)
              have h00 : M.1 = (0, 0) := by
                rcases sm1 with ⟨g1, _, _⟩ | ⟨_, _, g1⟩
                · exact absurd g1 hm
                · exact g1
              rw [if_neg hm] at snext
              have hfin := hend (by rw [snext]; exact hm)
              rw [snext, hF] at hfin
              rw [hfin]
              have c0 : ((0 : Nat) : Int) = 0 := rfl
              simp -implicitDefEqProofs only [go_sem, t5, e0, h00, c0]
              refine fin_many ?_
              simp -implicitDefEqProofs only [go_sem, h00, c0]
          · have t5 : (5 : Int) - 2 * (i : Int) = 3 := by omega
            have hm := i1 (by omega)
            have hin : inB (evB (coef l) l.length (mk2 x) j) M A i = M.1 := by rw [hi1]; rfl
            have q33 := tB' (show decide ((3:Int) ≥ 3) = true by decide)
            simp -implicitDefEqProofs only [go_sem, t5, hin, Int.reduceBEq, q33, hml, hkA, us_get hx]
            refine Call.intro (point_c _ c) ?_
            simp -implicitDefEqProofs only [go_sem, t5, hin]
            obtain ⟨opA, ma2⟩ := sma hm
            refine Call.intro opA ?_
            rw [if_pos hm] at snext
            by_cases ha : A.2.1 = 0
            · have e0 : (A.2.1 != 0) = false := bneF ha
              obtain ⟨i', hi'⟩ : ∃ i' : {i : Nat // i ≤ 2 ∧ (1 ≤ i → M.2.1 = 0) ∧ (2 ≤ i → A.2.1 = 0)}, i'.1 = 2 := ⟨⟨2, by omega, fun _ => hm, fun _ => ha⟩, rfl⟩
              simp -implicitDefEqProofs only [go_sem, t5, e0]
              refine ⟨i', weak_of ?_ ?_ rfl, by simp only [hi']; omega⟩
              · have w6 : IntKind.i64.wrap (3 - 2) = 1 := by decide
                have w7 : (5 : Int) - 2 * ((2 : Nat) : Int) = 1 := by decide
                simp -implicitDefEqProofs only [go_sem, t5, hi', w6, w7]
              · simp -implicitDefEqProofs only [go_sem, hi', inB]
            · have e0 := tV (nM ha)
              have h00 : A.1 = (0, 0) := by
                rcases ma2 with ⟨g1, _, _⟩ | ⟨_, _, g1⟩
                · exact absurd g1 ha
                · exact g1
              have hfin := hend (by rw [snext]; exact ha)
              rw [snext, hF] at hfin
              rw [hfin]
              have c0 : ((0 : Nat) : Int) = 0 := rfl
              simp -implicitDefEqProofs only [go_sem, t5, e0, h00, c0]
              refine fin_many ?_
              simp -implicitDefEqProofs only [go_sem, h00, c0]
          · have t5 : (5 : Int) - 2 * (i : Int) = 1 := by omega
            have hm := i1 (by omega)
            have ha := i2 (by omega)
            have hin : inB (evB (coef l) l.length (mk2 x) j) M A i = A.1 := by rw [hi2]; rfl
            rw [if_pos hm] at snext
            obtain ⟨_, ma2⟩ := sma hm
            have gA : Gd A.1 := by
              rcases ma2 with ⟨_, _, gm⟩ | ⟨g1, _, _⟩
              · exact gm
              · omega
            have e13 : decide ((1 : Int) ≥ 3) = false := by decide
            obtain ⟨j', hj'⟩ : ∃ j' : {j : Nat // j < l.length ∧ (evB (coef l) l.length (mk2 x) j).2.1 = 0 ∧ Gd (evB (coef l) l.length (mk2 x) j).1}, j'.1 = j + 1 := ⟨⟨j + 1, hA, by rw [snext]; exact ha, by rw [snext]; exact gA⟩, rfl⟩
            simp -implicitDefEqProofs only [go_sem, t5, e13, w1]
            refine ⟨j', weak_of ?_ ?_ rfl, by simp only [hj']; omega⟩
            · simp -implicitDefEqProofs only [go_sem, hj', w1]
            · simp -implicitDefEqProofs only [go_sem, hj', snext, hin]
      · have eA : decide ((l.length : Int) - 2 - (j : Int) ≥ 0) = false := fD (by omega)
        have hj1 : j = l.length - 1 := by omega
        subst hj1
        have hn := hname z0
        rw [hF] at z0 hn
        obtain ⟨r1, r2, r3⟩ := R
        simp only at z0 hn
        subst z0 hn
        simp -implicitDefEqProofs only [go_sem, eA, hF]
        refine fin_many ?_
        simp -implicitDefEqProofs only [go_sem]
  · have hR : evalR l (mk2 x) = ((0, 0), rightB l, noS) := if_neg hr
    have e0 := tV (bneT hr)
    rw [hR]
    refine dcall_of Tryz.func25 rfl (by kernel_rfl) Tryz.ntmps25 (by kernel_rfl) (by simp) (rs := [.cell 4 27, .tmp 5, .tmp 6]) rfl ?_
    rintro ⟨P, E, σ0, w0, base, n, kb, df⟩ rfl rfl rfl rfl
    simp -implicitDefEqProofs only [go_sem]
    refine Call.intro hri ?_
    simp -implicitDefEqProofs only [go_sem, e0]
    refine fin_many ?_
    simp -implicitDefEqProofs only [go_sem]
end
end Go.Enc
end

section
set_option linter.unusedSimpArgs false
set_option maxRecDepth 100000
namespace Go.Enc
open Go.Proofs Go.Enc.Dg Go.Enc.Nu Go.Enc.Fl

section
variable {E : Nat → Option Value} {q : Nat → Addr} {l : List Nat} {x : Nat × Nat}
theorem rightB_num (l : List Nat) : rightB l = 0 ∨ rightB l = 1 ∨ rightB l = 8 := by
  unfold rightB
  split
  · exact .inr (.inr rfl)
  · split
    · exact .inl rfl
    · exact .inr (.inl rfl)
theorem code_ev (hq : Sent E q) (hl : ∀ x ∈ l, x < 18446744073709551616) {X : Nat × Nat} (gX : Gd X) : DCall Tryz.prog E 32 [evalE q l X] (.data (.tup [intD (evalR l X).2.1, strD (evalR l X).2.2])) := by
  by_cases hr : rightB l = 0
  · obtain ⟨h1, _, _⟩ := rightB_ok hr
    have hR : evalR l X = evB (coef l) l.length X (l.length - 1) := if_pos hr
    have hE : evalE q l X = errD q (evalR l X).2.1 (evalR l X).2.2 := if_pos hr
    rw [hE, hR]
    rcases ev_res hq hl hr gX (l.length - 1) (by omega) with ⟨a, b, _⟩ | ⟨a, b, _⟩
    · exact code_err hq (.inl ⟨a, b⟩)
    · exact code_err hq (.inr ⟨by omega, by omega⟩)
  · have hR : evalR l X = ((0, 0), rightB l, noS) := if_neg hr
    have hE : evalE q l X = errR q (rightB l) := if_neg hr
    have hE2 : errR q (rightB l) = eD q (rightB l - 1).toNat := if_neg hr
    rw [hE, hR, hE2]
    rcases rightB_num l with h | h | h
    · exact absurd h hr
    · rw [h]; exact code_sent hq (i := 0) (by decide)
    · rw [h]; exact code_sent hq (i := 7) (by decide)
theorem peval_c (hq : Sent E q) (hl : ∀ x ∈ l, x < 18446744073709551616) (hlen : l.length * 8 ≤ 140737488355328) (x1 : x.1 < 18446744073709551616) (x2 : x.2 < 18446744073709551616) :
    DCall Tryz.prog E 23 [usD l, boxD x] (.data (.tup [boxD (evalR l (mk2 x)).1, intD (evalR l (mk2 x)).2.1, strD (evalR l (mk2 x)).2.2])) := by
  have gX := mk2_gd x1 x2
  have h1 := floats_c E hlen
  have h2 := pmade_c hq x1 x2
  have h3 := ieval_c hq hl (by omega) gX
  have h4 := code_ev hq hl gX
  obtain ⟨R, hF⟩ : ∃ R, evalR l (mk2 x) = R := ⟨_, rfl⟩
  obtain ⟨e, hG⟩ : ∃ e, evalE q l (mk2 x) = e := ⟨_, rfl⟩
  rw [hF, hG] at h3
  rw [hF, hG] at h4
  rw [hF]
  clear hF hG
  refine dcall_of Tryz.func23 rfl (by kernel_rfl) Tryz.ntmps23 (by kernel_rfl) (by simp) (rs := [.cell 4 32, .tmp 5, .tmp 6]) rfl ?_
  rintro ⟨P, E, σ0, w0, base, n, kb, df⟩ rfl rfl rfl rfl
  simp -implicitDefEqProofs only [go_sem]
  refine drawn_intro (by kernel_rfl) (by kernel_rfl) (by kernel_rfl) ?_
  simp -implicitDefEqProofs only [go_sem]
  refine Call.intro h1 ?_
  simp -implicitDefEqProofs only [go_sem]
  refine Call.intro h2 ?_
  simp -implicitDefEqProofs only [go_sem]
  refine Call.intro h3 ?_
  simp -implicitDefEqProofs only [go_sem]
  refine Call.intro h4 ?_
  simp -implicitDefEqProofs only [go_sem]
  refine Call.intro (pbox_c _ R.1) ?_
  simp -implicitDefEqProofs only [go_sem]
  refine fin_many ?_
  simp -implicitDefEqProofs only [go_sem]
theorem plays_eval (hq : Sent E q) {o : OpD} (hw : o.Wf) (hlen : o.p.length * 8 ≤ 140737488355328) (hk : o.kind = 5) : DCall Tryz.prog E 12 [opD o] (.data (bD true)) := by
  have hp : ∀ x ∈ o.p, x < 18446744073709551616 := hw.p
  have h0 := copied_c E hlen
  have h1 := peval_c (x := (o.xl, o.xh)) hq hp hlen hw.xl hw.xh
  have h2 := reval_c (x := (o.xl, o.xh)) hq hp (by omega) hw.xl hw.xh
  obtain ⟨R, hF⟩ : ∃ R, evalR o.p (mk2 (o.xl, o.xh)) = R := ⟨_, rfl⟩
  rw [hF] at h1 h2
  clear hF
  obtain ⟨r, n, s⟩ := R
  refine dcall_of Tryz.func12 rfl (by kernel_rfl) Tryz.ntmps12 (by kernel_rfl) (by simp) (rs := [.tmp 2]) rfl ?_
  rintro ⟨P, E, σ0, w0, base, n, kb, df⟩ rfl rfl rfl rfl
  have e0 := tB (beqT (show n = n from rfl))
  have e1 := tV (show (s.toList == s.toList) = true from beq_self_eq_true _)
  simp -implicitDefEqProofs only [go_sem, OpD.cells, iD, uD, hk, Int.reduceBEq]
  refine drawn_intro (by kernel_rfl) (by kernel_rfl) (by kernel_rfl) ?_
  simp -implicitDefEqProofs only [go_sem, OpD.cells, iD, uD]
  refine Call.intro h0 ?_
  simp -implicitDefEqProofs only [go_sem]
  refine Call.intro (lbox_c _ (o.xl, o.xh)) ?_
  simp -implicitDefEqProofs only [go_sem]
  refine Call.intro h1 ?_
  simp -implicitDefEqProofs only [go_sem]
  refine Call.intro h2 ?_
  simp -implicitDefEqProofs only [go_sem]
  refine Call.intro (same_c _ _) ?_
  simp -implicitDefEqProofs only [go_sem, e0, e1, beq_self_eq_true, finK]
end
end Go.Enc
end
