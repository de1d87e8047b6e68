/-
  The function that keeps the first error; the least amount of an interval; whether its ends are fair.
-/
import Derived.Test.YtjlibljfpkmpfaaGreatDoorSv23
import Derived.Test.YtjlibljfpkmpfaaGreatDoorSv24
set_option linter.unusedSimpArgs false
set_option maxRecDepth 100000
namespace Go.Enc
open Go.Proofs Go.Enc.Fl Go.RowKit
/-- What is hidden may be shown, and the other way round. -/
theorem leads_hide {C : Ctx} {s : St} {k : Nat} {r : T} {e : D} (hk : s.h k = some ⟨none, [r, .d e]⟩) : Leads C s (s.setH k ⟨none, [r, .hid e]⟩) := fun σ G a w S => by
  have hh : ∀ j o, (s.setH k ⟨none, [r, .hid e]⟩).h j = some o → (j = k ∧ o = ⟨none, [r, .hid e]⟩) ∨ (j ≠ k ∧ s.h j = some o) := by
    intro j o h
    simp only [St.setH, upd] at h
    split at h
    · rename_i e; exact .inl ⟨e, by simpa using h.symm⟩
    · rename_i e; exact .inr ⟨e, h⟩
  have hl : ∀ j, s.h j ≠ none → (s.setH k ⟨none, [r, .hid e]⟩).h j ≠ none := fun j hj => by
    simp only [St.setH, upd]
    split
    · simp
    · exact hj
  have hfin : ∃ N, ∀ j, N ≤ j → (s.setH k ⟨none, [r, .hid e]⟩).h j = none := by
    obtain ⟨N, hN⟩ := S.fin
    exact ⟨N, fun j hj => by
      simp only [St.setH]
      rw [upd_ne _ _ (fun e => by have := hN j hj; rw [e, hk] at this; cases this)]
      exact hN j hj⟩
  refine ⟨σ, G, { S with fin := hfin, live := fun i j hj => hl j (S.live i j hj), obj := fun j o h => ?_, deep := fun j o h c hc j' hj' => ?_, sep := fun j j' o1 o2 b h1 h2 => ?_, own := fun j o b h => ?_ }⟩
  · rcases hh j o h with ⟨rfl, rfl⟩ | ⟨hj, h⟩
    · have H := S.obj j _ hk
      simp only [ObjIs] at H ⊢
      obtain ⟨b, us, ty, h1, h2, h3, h4, h5⟩ := H
      refine ⟨b, us, ty, h1, h2, h3, ?_, h5⟩
      obtain ⟨u, q, e1, e2, e3, v, q', e4, e5, e6, e7⟩ := h4
      exact ⟨u, q, e1, e2, e3, v, q', e4, e5, e6, e7⟩
    · exact S.obj j o h
  · rcases hh j o h with ⟨rfl, rfl⟩ | ⟨hj, h⟩
    · simp only [List.mem_cons, List.not_mem_nil, or_false] at hc
      rcases hc with rfl | rfl
      · exact hl j' (S.deep j _ hk _ (by simp) j' hj')
      · simp [T.ref] at hj'
    · exact hl j' (S.deep j o h c hc j' hj')
  · have conv : ∀ {j o}, (s.setH k ⟨none, [r, .hid e]⟩).h j = some o → ∃ o1, s.h j = some o1 := fun {j o} h => by
      rcases hh j o h with ⟨rfl, rfl⟩ | ⟨_, h⟩
      · exact ⟨_, hk⟩
      · exact ⟨_, h⟩
    obtain ⟨p1, q1⟩ := conv h1
    obtain ⟨p2, q2⟩ := conv h2
    exact S.sep j j' p1 p2 b q1 q2
  · rcases hh j o h with ⟨rfl, rfl⟩ | ⟨_, h⟩
    · exact S.own j _ b hk
    · exact S.own j o b h
theorem setH_twice (s : St) (k : Nat) (o o' : Obj) : (s.setH k o).setH k o' = s.setH k o' := by
  unfold St.setH
  congr 1
  funext i
  simp only [upd]
  split <;> rfl
theorem setH_self {s : St} {k : Nat} {o : Obj} (h : s.h k = some o) : s.setH k o = s := by
  unfold St.setH
  cases s
  congr 1
  funext i
  simp only [upd]
  split
  · rename_i e; subst e; exact h.symm
  · rfl
theorem do_ok (E : Nat → Option Value) : DoOk Tryz.prog E := by
  intro C s dst k r e0 e a hP hE hk ha he
  obtain ⟨P, E', σ0, w0, base, n, kb, df, G0⟩ := C
  simp only at hP hE
  subst hP
  subst hE
  obtain ⟨x, y, rfl⟩ : ∃ x y, a = [x, y] := by
    match a, ha with
    | [x, y], _ => exact ⟨x, y, rfl⟩
  have key : ∀ (e : D), isErrD e = true → e ≠ .v .nilIface → ∃ t cs, e = .ip t cs := fun e h hn => by
    cases e with
    | v u => cases u <;> first | exact absurd rfl hn | (simp [isErrD] at h)
    | ip t cs => exact ⟨t, cs, rfl⟩
    | _ => simp [isErrD] at h
  have hts : ∀ c ∈ [T.ptr k 0, .d (.agg [x, y]), .d e], ∀ k', c.ref = some k' → s.h k' ≠ none := fun c hc k' hk' => by
    simp only [List.mem_cons, List.not_mem_nil, or_false] at hc
    rcases hc with rfl | rfl | rfl
    · simp only [T.ref, Option.some.injEq] at hk'; subst hk'; rw [hk]; simp
    · simp [T.ref] at hk'
    · simp [T.ref] at hk'
  by_cases hn : e = .v .nilIface
  · subst hn
    rw [show doE e0 (.v .nilIface) = e0 from rfl, setH_self hk]
    refine pcall_of (C := ⟨Tryz.prog, E', σ0, w0, base, n, kb, df, G0⟩) (s := s) (H := s.h) Tryz.func137 rfl (by kernel_rfl) Tryz.ntmps137 (by simp) (rs := [.cell 6 59]) rfl hts (fun _ h => h) (fun h => h) fun kb' hK C' h1 h2 h3 h4 => ?_
    obtain ⟨P1, E1, σ1, w1, base1, n1, kb1, df1, G1⟩ := C'
    simp only at h1 h2 h3 h4
    subst h1; subst h2; subst h3; subst h4
    have n4 : s.h (kb1 + 4) = none := Decidable.byContradiction fun h => by have := hK _ h; omega
    have n6 : s.h (kb1 + 6) = none := Decidable.byContradiction fun h => by have := hK _ h; omega
    refine dwp_of (by kernel_rfl) ?_
    have q1 : (kb1 + 6 = kb1 + 4) = False := by simp
    have q2 : (kb1 + 4 = kb1 + 6) = False := by simp
    simp -implicitDefEqProofs only [go_sem, n4, n6, q1, q2]
    refine ⟨?_, fun k' o ho => ?_⟩
    · simp -implicitDefEqProofs only [go_sem, FinP.resL1, q1, q2]
    · have hlt := hK k' (by rw [ho]; simp)
      have q3 : (k' = kb1 + 4) = False := by simp; omega
      have q4 : (k' = kb1 + 6) = False := by simp; omega
      simp -implicitDefEqProofs only [go_sem, q3, q4, ho]
  · obtain ⟨t, cs, rfl⟩ := key e he hn
    rw [show doE e0 (.ip t cs) = .ip t cs from rfl]
    have hL : Leads ⟨Tryz.prog, E', σ0, w0, base, n, kb, df, G0⟩ ((⟨s.t, (s.setH k ⟨none, [r, .d (.ip t cs)]⟩).h⟩ : St).put dst (.d (.agg [x, y]))) ((s.setH k ⟨none, [r, .hid (.ip t cs)]⟩).put dst (.d (.agg [x, y]))) := by
      have h1 : ((⟨s.t, (s.setH k ⟨none, [r, .d (.ip t cs)]⟩).h⟩ : St).put dst (.d (.agg [x, y]))).h k = some ⟨none, [r, .d (.ip t cs)]⟩ := by
        rw [put_h]; simp [St.setH, upd_same]
      have h2 := leads_hide (C := ⟨Tryz.prog, E', σ0, w0, base, n, kb, df, G0⟩) h1
      have e1 : ((⟨s.t, (s.setH k ⟨none, [r, .d (.ip t cs)]⟩).h⟩ : St).put dst (.d (.agg [x, y]))).setH k ⟨none, [r, .hid (.ip t cs)]⟩ = (s.setH k ⟨none, [r, .hid (.ip t cs)]⟩).put dst (.d (.agg [x, y])) := by
        cases dst with
        | none => exact setH_twice s k _ _
        | some d =>
          show (((s.setH k _).setH k ⟨none, [r, .hid (.ip t cs)]⟩).put (some d) _) = _
          rw [setH_twice]
      rw [e1] at h2
      exact h2
    refine pcall_mono ?_ hL
    refine pcall_of (C := ⟨Tryz.prog, E', σ0, w0, base, n, kb, df, G0⟩) (s := s) (H := (s.setH k ⟨none, [r, .d (.ip t cs)]⟩).h) Tryz.func137 rfl (by kernel_rfl) Tryz.ntmps137 (by simp) (rs := [.cell 6 59]) rfl hts (fun k' h => ?_) (fun hD k' o ho c hc k2 hk2 => ?_) fun kb' hK C' h1 h2 h3 h4 => ?_
    · simp only [St.setH, upd]
      split
      · simp
      · exact h
    · have hl : ∀ j, s.h j ≠ none → (s.setH k ⟨none, [r, .d (.ip t cs)]⟩).h j ≠ none := fun j hj => by
        simp only [St.setH, upd]
        split
        · simp
        · exact hj
      simp only [St.setH, upd] at ho
      split at ho
      · cases ho
        simp only [List.mem_cons, List.not_mem_nil, or_false] at hc
        rcases hc with rfl | rfl
        · exact hl k2 (hD k _ hk _ (by simp) k2 hk2)
        · simp [T.ref] at hk2
      · exact hl k2 (hD k' o ho c hc k2 hk2)
    obtain ⟨P1, E1, σ1, w1, base1, n1, kb1, df1, G1⟩ := C'
    simp only at h1 h2 h3 h4
    subst h1; subst h2; subst h3; subst h4
    have n4 : s.h (kb1 + 4) = none := Decidable.byContradiction fun h => by have := hK _ h; omega
    have n6 : s.h (kb1 + 6) = none := Decidable.byContradiction fun h => by have := hK _ h; omega
    have hlt := hK k (by rw [hk]; simp)
    refine dwp_of (by kernel_rfl) ?_
    have q1 : (kb1 + 6 = kb1 + 4) = False := by simp
    have q2 : (kb1 + 4 = kb1 + 6) = False := by simp
    have q3 : (k = kb1 + 4) = False := by simp; omega
    have q4 : (k = kb1 + 6) = False := by simp; omega
    have q5 : (kb1 + 4 = k) = False := by simp; omega
    have q6 : (kb1 + 6 = k) = False := by simp; omega
    simp -implicitDefEqProofs only [go_sem, n4, n6, q1, q2, q3, q4, q5, q6, hk]
    refine ⟨?_, fun k' o ho => ?_⟩
    · simp -implicitDefEqProofs only [go_sem, FinP.resL1, q1, q2, q5, q6]
    · simp -implicitDefEqProofs only [go_sem] at ho
      by_cases hkk : k' = k
      · subst hkk
        simp only [if_true, Option.some.injEq] at ho
        subst ho
        simp -implicitDefEqProofs only [go_sem, q3, q4]
      · simp only [hkk, if_false] at ho
        have hlt := hK k' (by rw [ho]; simp)
        have q3 : (k' = kb1 + 4) = False := by simp; omega
        have q4 : (k' = kb1 + 6) = False := by simp; omega
        have q5 : (k' = k) = False := by simp [hkk]
        simp -implicitDefEqProofs only [go_sem, q3, q4, q5, ho]
/-- The least amount that an interval holds. -/
def leastB (a : Nat × Nat) : Nat := if has0 a = true then 0 else (pickF false (a.1 % 2 ^ 63) (a.2 % 2 ^ 63)).getD 0
theorem least_c (E : Nat → Option Value) {a : Nat × Nat} (g : Gd a) : DCall Tryz.prog E 146 [ivD a] (.data (flD (leastB a))) := by
  have n1 := (gd_ok1 g).fin.num
  have n2 := (gd_ok2 g).fin.num
  have hh := iholds_c E (b := a) n1 n2 num0.1
  rw [num0.2] at hh
  have hh : DCall Tryz.prog E 89 [ivD a, flD 0] (.data (bD (has0 a))) := hh
  obtain ⟨z, hz, _⟩ := pickF_spec false (num_abs.2 n1) (num_abs.2 n2)
  unfold leastB
  rw [hz, Option.getD_some]
  refine dcall_of Tryz.func146 rfl (by kernel_rfl) Tryz.ntmps146 (by kernel_rfl) (by simp) (rs := [.tmp 2]) rfl ?_
  rintro ⟨P, E, σ0, w0, base, n, kb, df, G0⟩ rfl rfl rfl rfl
  simp -implicitDefEqProofs only [go_sem]
  refine Call.intro hh ?_
  cases hb : has0 a
  · simp -implicitDefEqProofs only [go_sem]
    refine drawn_intro (by kernel_rfl) (by kernel_rfl) (by kernel_rfl) ?_
    simp -implicitDefEqProofs only [go_sem]
    refine Call.intro (abs_c _ g.l1) ?_
    simp -implicitDefEqProofs only [go_sem]
    refine Call.intro (abs_c _ g.l2) ?_
    simp -implicitDefEqProofs only [go_sem, hz, finK]
  · simp -implicitDefEqProofs only [go_sem, finK]
/-- Is an end fair? -/
def fairO (b : Nat) : Bool := decide (b % 2 ^ 63 = 0) || (decide (4472074429978902528 ≤ b % 2 ^ 63) && decide (b % 2 ^ 63 ≤ 4742290407621132288))
def fairB (a : Nat × Nat) : Bool := fairO a.1 && fairO a.2
theorem fair_c (E : Nat → Option Value) {a : Nat × Nat} (g : Gd a) : DCall Tryz.prog E 134 [ivD a] (.data (bD (fairB a))) := by
  have two_ok : ∀ j, OkB (two a.1 a.2 j) := gd_two g
  refine dcall_of Tryz.func134 rfl (by kernel_rfl) Tryz.ntmps134 (by kernel_rfl) (by simp) (rs := [.tmp 2]) rfl ?_
  rintro ⟨P, E, σ0, w0, base, n, kb, df, G0⟩ rfl rfl rfl rfl
  simp -implicitDefEqProofs only [go_sem]
  rw [stop_eq]
  refine dwp_loop (α := {j : Nat // j ≤ 2 ∧ ∀ i, i < j → fairO (two a.1 a.2 i) = true}) (fun j => St.of [(10, .d (.agg [flD a.1, flD a.2])), (11, .d (intD j.1))] []) (fun j => 2 - j.1) ⟨0, by omega, fun i hi => by omega⟩ (weak_of ?_ ?_ rfl) (by kernel_rfl) (fun j => ?_)
  · simp -implicitDefEqProofs only [go_sem]
  · simp -implicitDefEqProofs only [go_sem]
  · obtain ⟨j, hj, hf⟩ := j
    by_cases hA : j < 2
    · have eA : decide ((j : Int) < 2) = true := tD (by omega)
      have ex : ([flD a.1, flD a.2] : List D)[j]? = some (flD (two a.1 a.2 j)) := by
        have : j = 0 ∨ j = 1 := by omega
        rcases this with rfl | rfl <;> rfl
      have eJ : (j : Int) < ((2 : Nat) : Int) := by omega
      have w1 : IntKind.i64.wrap ((j : Int) + 1) = ((j + 1 : Nat) : Int) := addN1 (by omega)
      have ob := two_ok j
      obtain ⟨b, hb⟩ : ∃ b, two a.1 a.2 j = b := ⟨_, rfl⟩
      rw [hb] at ex ob
      have nb := num_abs.2 ob.fin.num
      have c1 : (FloatKind.f64.format.order (b % 2 ^ 63) 0 != some Ordering.eq) = !decide (b % 2 ^ 63 = 0) := by
        rw [ord_ne nb num0.1, idx_abs, num0.2]
        congr 2
        rw [eq_iff_iff]
        omega
      have c2 : (FloatKind.f64.format.order (b % 2 ^ 63) 4472074429978902528 == some Ordering.lt) = decide (b % 2 ^ 63 < 4472074429978902528) := by
        rw [ord_lt nb (show Num 4472074429978902528 by decide), idx_abs, show idx 4472074429978902528 = ((4472074429978902528 : Nat) : Int) by decide]
        congr 1
        rw [eq_iff_iff]
        omega
      have c3 : (FloatKind.f64.format.order (b % 2 ^ 63) 4742290407621132288 == some Ordering.gt) = decide (4742290407621132288 < b % 2 ^ 63) := by
        rw [ord_gt nb (show Num 4742290407621132288 by decide), idx_abs, show idx 4742290407621132288 = ((4742290407621132288 : Nat) : Int) by decide]
        congr 1
        rw [eq_iff_iff]
        omega
      simp -implicitDefEqProofs only [go_sem, eA, eJ, ex]
      refine Call.intro (abs_c _ ob.1) ?_
      have good : fairO b = true → ∃ k' : {j : Nat // j ≤ 2 ∧ ∀ i, i < j → fairO (two a.1 a.2 i) = true}, k'.1 = j + 1 := fun h => ⟨⟨j + 1, by omega, fun i hi => by
        rcases Nat.lt_or_ge i j with h1 | h1
        · exact hf i h1
        · have : i = j := by omega
          rw [this, hb]; exact h⟩, rfl⟩
      have bad : fairO b = false → fairB a = false := fun h => by
        rw [← hb] at h
        unfold fairB
        have : j = 0 ∨ j = 1 := by omega
        rcases this with rfl | rfl
        · have h : fairO a.1 = false := h
          rw [h]; rfl
        · have h : fairO a.2 = false := h
          rw [h, Bool.and_false]
      by_cases h1 : b % 2 ^ 63 = 0
      · have e1 := tV c1
        rw [decide_eq_true h1] at e1
        obtain ⟨k', hk'⟩ := good (by unfold fairO; rw [decide_eq_true h1]; rfl)
        simp -implicitDefEqProofs only [go_sem, e1, w1]
        refine ⟨k', weak_of ?_ ?_ rfl, by simp only [hk']; omega⟩
        · simp -implicitDefEqProofs only [go_sem, hk']
        · simp -implicitDefEqProofs only [go_sem]
      · have e1 := tV c1
        rw [decide_eq_false h1] at e1
        by_cases h2 : b % 2 ^ 63 < 4472074429978902528
        · have e2 := tV c2
          rw [decide_eq_true h2] at e2
          have hb0 := bad (by unfold fairO; rw [decide_eq_false h1, decide_eq_false (by omega)]; rfl)
          simp -implicitDefEqProofs only [go_sem, e1, e2, hb0, finK]
        · have e2 := tV c2
          rw [decide_eq_false h2] at e2
          by_cases h3 : 4742290407621132288 < b % 2 ^ 63
          · have e3 := tV c3
            rw [decide_eq_true h3] at e3
            have hb0 := bad (by unfold fairO; rw [decide_eq_false h1, decide_eq_false (show ¬ b % 2 ^ 63 ≤ 4742290407621132288 by omega), Bool.and_false]; rfl)
            simp -implicitDefEqProofs only [go_sem, e1, e2, e3, hb0, finK]
          · have e3 := tV c3
            rw [decide_eq_false h3] at e3
            obtain ⟨k', hk'⟩ := good (by unfold fairO; rw [decide_eq_true (show 4472074429978902528 ≤ b % 2 ^ 63 by omega), decide_eq_true (show b % 2 ^ 63 ≤ 4742290407621132288 by omega)]; simp)
            simp -implicitDefEqProofs only [go_sem, e1, e2, e3, w1]
            refine ⟨k', weak_of ?_ ?_ rfl, by simp only [hk']; omega⟩
            · simp -implicitDefEqProofs only [go_sem, hk']
            · simp -implicitDefEqProofs only [go_sem]
    · have eA : decide ((j : Int) < 2) = false := fD (by omega)
      have hj2 : j = 2 := by omega
      subst hj2
      have hr : fairB a = true := by
        unfold fairB
        have h0 : fairO a.1 = true := hf 0 (by omega)
        have h1 : fairO a.2 = true := hf 1 (by omega)
        rw [h0, h1]; rfl
      simp -implicitDefEqProofs only [go_sem, eA, hr, finK]
end Go.Enc
