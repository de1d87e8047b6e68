/-
  The row whose number in a column is surely the greatest is laid at its place.
-/
import Derived.Test.YtjlibljfpkmpfaaGreatDoorSv26
set_option linter.unusedSimpArgs false
set_option maxRecDepth 100000
namespace Go.Enc
open Go.Proofs Go.Enc.Fl Go.RowKit
/-- What is behind the search: found, or not. -/
def pvH (H : Nat → Option Obj) (kR : Nat) (κ : Nat → Nat) (n k : Nat) (at_ : Int) : Nat → Option Obj :=
  if at_ < 0 then H else upd H kR (some (rowsO (swp κ k at_.toNat) n))
section
variable {E : Nat → Option Value} {H : Nat → Option Obj} {ks kR n k : Nat} {κ : Nat → Nat} {A : Nat → Nat → Nat × Nat} {e : D}
theorem pivot_c (S : Sys H ks kR κ n A e) (hn4 : n ≤ 4) (hk : k < n) (hG : ∀ i j, i < n → j ≤ n → Gd (A i j)) (hDp : ∀ k o, H k = some o → ∀ c ∈ o.cells, ∀ k', c.ref = some k' → H k' ≠ none) {C : Ctx} (hP : C.P = Tryz.prog) (hE : C.E = E) {t : Nat → T} {dst : Option Nat} :
    PCall C 135 [.ptr ks 0, .d (intD k)] dst ⟨t, H⟩ ((⟨t, pvH H kR κ n k (pvS A n k (n - k)).2⟩ : St).put dst (.d (bD (decide (0 ≤ (pvS A n k (n - k)).2))))) := by
  obtain ⟨P, E', σ0, w0, base, nt, kb, df, G0⟩ := C
  simp only at hP hE
  subst hP
  subst hE
  have hat := pvS_at A n k (n - k)
  have hts : ∀ c ∈ [T.ptr ks 0, .d (intD k)], ∀ k', c.ref = some k' → H k' ≠ none := fun c hc k' hk' => by
    simp only [List.mem_cons, List.not_mem_nil, or_false] at hc
    rcases hc with rfl | rfl
    · simp only [T.ref, Option.some.injEq] at hk'; subst hk'; rw [S.s]; simp
    · simp [T.ref] at hk'
  have hHl : ∀ k', H k' ≠ none → pvH H kR κ n k (pvS A n k (n - k)).2 k' ≠ none := fun k' h => by
    unfold pvH
    split
    · exact h
    · simp only [upd]
      split
      · simp
      · exact h
  refine pcall_of (C := ⟨Tryz.prog, E', σ0, w0, base, nt, kb, df, G0⟩) (s := ⟨t, H⟩) (H := pvH H kR κ n k (pvS A n k (n - k)).2) Tryz.func135 rfl (by kernel_rfl) Tryz.ntmps135 (by simp) (rs := [.tmp 4]) rfl hts hHl (fun hD k' o ho c hc k2 hk2 => ?_) fun kb' hK C' h1 h2 h3 h4 => ?_
  · refine hHl k2 ?_
    unfold pvH at ho
    split at ho
    · exact hD k' o ho c hc k2 hk2
    · rename_i hneg
      simp only [upd] at ho
      split at ho
      · cases ho
        obtain ⟨i, hi, rfl⟩ := gsT_mem hc
        simp only [T.ref, Option.some.injEq] at hk2
        subst hk2
        rcases hat with h | ⟨a, h1, h2, h3⟩
        · omega
        · rw [h3] at hneg ⊢
          have hrow := (S.swap (i := k) (j := a) hk (by omega)).row i hi
          rw [Int.toNat_natCast]
          intro h0
          rw [upd_ne _ _ ((S.swap (i := k) (j := a) hk (by omega)).ne3 hi).symm, h0] at hrow
          cases hrow
      · exact hD k' o ho c hc k2 hk2
  obtain ⟨P1, E1, σ1, w1, base1, n1, kb1, df1, G1⟩ := C'
  simp only at h1 h2 h3 h4
  subst h1; subst h2; subst h3; subst h4
  have hlt : ∀ k', H k' ≠ none → k' < kb1 := hK
  have hS := S.s
  have hR := S.r
  have ns : ∀ d, (ks = kb1 + d) = False := fun d => by have := hlt ks (by rw [hS]; simp); simp; omega
  have nR : ∀ d, (kR = kb1 + d) = False := fun d => by have := hlt kR (by rw [hR]; simp); simp; omega
  have nr : ∀ i d, i < n → (κ i = kb1 + d) = False := fun i d hi => by have := hlt (κ i) (by rw [S.row i hi]; simp); simp; omega
  have n0 : ∀ d, H (kb1 + d) = none := fun d => Decidable.byContradiction fun h => by have := hlt _ h; omega
  have gl := gsT_len κ n
  have wk : ∀ {s : St} {l : List (Nat × T)}, allTW s l → (∀ k' o, H k' = some o → s.h k' = some o) → (∀ p ∈ l, ∀ k', p.2.ref = some k' → H k' ≠ none) → Weak s (St.fn l H) := fun h1 h2 h3 => weak_fn h1 h2 h3 hDp
  refine dwp_of (by kernel_rfl) ?_
  simp -implicitDefEqProofs only [go_sem]
  rw [stop_eq]
  refine dwp_loop (α := {m : Nat // m ≤ n - k}) (fun m => St.fn [(0, .ptr ks 0), (1, .d (intD k)), (5, .d (flD (pvS A n k m.1).1)), (6, .d (intD (pvS A n k m.1).2)), (7, .d (intD ((k + m.1 : Nat) : Int)))] H) (fun m => n - k - m.1) ⟨0, by omega⟩ (wk ?_ ?_ ?_) (by kernel_rfl) (fun m => ?_)
  · simp -implicitDefEqProofs only [go_sem, pvS]
  · intro k' o ho
    simp -implicitDefEqProofs only [go_sem, ho]
  · intro p hp k' hk'
    simp only [List.mem_cons, List.not_mem_nil, or_false] at hp
    rcases hp with rfl | rfl | rfl | rfl | rfl <;> simp only [T.ref, Option.some.injEq, reduceCtorEq] at hk'
    subst hk'; rw [hS]; simp
  obtain ⟨m, hm⟩ := m
  by_cases hA : k + m < n
  · have eA : decide (((k + m : Nat) : Int) < (n : Int)) = true := tD (by omega)
    have hmi := S.row (k + m) hA
    have gg := gsT_get κ hA
    have q1 : (k + m) * 1 < n := by omega
    have il : (ivT (A (k + m)) (n + 1)).length = (n + 1) * 2 := ivT_len _ _
    have q2 : n * 2 ≤ (n + 1) * 2 := by omega
    have q3 : ((k : Nat) : Int) < ((n : Nat) : Int) := by omega
    have z1 : ∀ x : Nat, (0 : Int) ≤ (x : Int) := fun x => by omega
    have r1 := nr (k + m)
    simp -implicitDefEqProofs only [go_sem, eA, hS, hR, gl]
    refine drawn_intro (by kernel_rfl) (by kernel_rfl) (by kernel_rfl) ?_
    simp -implicitDefEqProofs only [go_sem, hS, hR, gl, gg, hA, hmi, il, q2, q3, z1]
    rw [stop_eq]
    have hg : ∀ j, j < n - k → Gd (A (k + m) (k + j)) := fun j hj => hG _ _ hA (by omega)
    refine dwp_loop (α := {j : Nat // j ≤ n - k}) (fun j => St.fn [(0, .ptr ks 0), (1, .d (intD k)), (5, .d (flD (pvS A n k m).1)), (6, .d (intD (pvS A n k m).2)), (7, .d (intD ((k + m : Nat) : Int))), (8, .d (flD (mostF (A (k + m)) k j.1))), (35, .vw (κ (k + m)) (k * 2) (n - k)), (36, .d (intD ((n - k : Nat) : Int))), (37, .d (intD (j.1 : Int)))] H) (fun j => n - k - j.1) ⟨0, by omega⟩ (wk ?_ ?_ ?_) (by kernel_rfl) (fun j => ?_)
    · simp -implicitDefEqProofs only [go_sem, mostF]
    · intro k' o ho
      simp -implicitDefEqProofs only [go_sem, ho]
    · intro p hp k' hk'
      simp only [List.mem_cons, List.not_mem_nil, or_false] at hp
      rcases hp with rfl | rfl | rfl | rfl | rfl | rfl | rfl | rfl | rfl <;> simp only [T.ref, Option.some.injEq, reduceCtorEq] at hk'
      · subst hk'; rw [hS]; simp
      · subst hk'; rw [hmi]; simp
    obtain ⟨j, hj⟩ := j
    by_cases hB : j < n - k
    · have eB : decide ((j : Int) < ((n - k : Nat) : Int)) = true := tD (by omega)
      obtain ⟨z, e1, e2, _⟩ := mostF_step hg hB
      have q4 : k * 2 + j * 2 < (n + 1) * 2 := by omega
      have q5 : k * 2 + j * 2 + 2 ≤ (n + 1) * 2 := by omega
      have tk : ((ivT (A (k + m)) (n + 1)).drop (k * 2 + j * 2)).take 2 = [.d (flD (A (k + m) (k + j)).1), .d (flD (A (k + m) (k + j)).2)] := by
        rw [← Nat.add_mul]; exact ivT_take _ (by omega)
      have w1 : IntKind.i64.wrap ((j : Int) + 1) = ((j + 1 : Nat) : Int) := addN1 (by omega)
      obtain ⟨j', hj'⟩ : ∃ j' : {j : Nat // j ≤ n - k}, j'.1 = j + 1 := ⟨⟨j + 1, hB⟩, rfl⟩
      simp -implicitDefEqProofs only [go_sem, eB, hB, hmi, il, q4, q5, tk, n0, negFloat_eq, e1, e2, w1, r1 10 hA, z1]
      refine ⟨j', wk ?_ ?_ ?_, by simp only [hj']; omega⟩
      · simp -implicitDefEqProofs only [go_sem, hj']
      · intro k' o ho
        have d0 : (k' = kb1 + 10) = False := by have := hlt k' (by rw [ho]; simp); simp; omega
        simp -implicitDefEqProofs only [go_sem, ho, d0]
      · intro p hp k' hk'
        simp only [List.mem_cons, List.not_mem_nil, or_false] at hp
        rcases hp with rfl | rfl | rfl | rfl | rfl | rfl | rfl | rfl | rfl <;> simp only [T.ref, Option.some.injEq, reduceCtorEq] at hk'
        · subst hk'; rw [hS]; simp
        · subst hk'; rw [hmi]; simp
    · have eB : decide ((j : Int) < ((n - k : Nat) : Int)) = false := fD (by omega)
      have hjn : j = n - k := by omega
      subst hjn
      have q6 : k * 2 < (n + 1) * 2 := by omega
      have q7 : k * 2 + 2 ≤ (n + 1) * 2 := by omega
      have tk : ((ivT (A (k + m)) (n + 1)).drop (k * 2)).take 2 = [.d (flD (A (k + m) k).1), .d (flD (A (k + m) k).2)] := ivT_take _ (by omega)
      simp -implicitDefEqProofs only [go_sem, eB, hS, hR, gl, gg, hA, hmi, il, q6, q7, tk, z1]
      refine Call.intro (least_c _ (hG _ _ hA (by omega))) ?_
      have w1 : IntKind.i64.wrap (((k + m : Nat) : Int) + 1) = ((k + m + 1 : Nat) : Int) := addN1 (by omega)
      obtain ⟨m', hm'⟩ : ∃ m' : {m : Nat // m ≤ n - k}, m'.1 = m + 1 := ⟨⟨m + 1, by omega⟩, rfl⟩
      have e3 : k + (m + 1) = k + m + 1 := by omega
      have fin : ∀ {s : St} (b : Nat) (x : Int), pvS A n k (m + 1) = (b, x) → s.t 0 = .ptr ks 0 → s.t 1 = .d (intD k) → s.t 5 = .d (flD b) → s.t 6 = .d (intD x) → s.t 7 = .d (intD ((k + m + 1 : Nat) : Int)) → (∀ k' o, H k' = some o → s.h k' = some o) →
          ∃ x : {m : Nat // m ≤ n - k}, Weak s (St.fn [(0, .ptr ks 0), (1, .d (intD k)), (5, .d (flD (pvS A n k x.1).1)), (6, .d (intD (pvS A n k x.1).2)), (7, .d (intD ((k + x.1 : Nat) : Int)))] H) ∧ n - k - x.1 < n - k - m := fun b x h1 h2 h3 h4 h5 h6 h7 => by
        refine ⟨m', wk ?_ h7 ?_, by omega⟩
        · simp only [allTW, hm', h1, e3, h2, h3, h4, h5, h6, TW_self, and_self]
        · intro p hp k' hk'
          simp only [List.mem_cons, List.not_mem_nil, or_false] at hp
          rcases hp with rfl | rfl | rfl | rfl | rfl <;> simp only [T.ref, Option.some.injEq, reduceCtorEq] at hk'
          subst hk'; rw [hS]; simp
      cases hv : valO A n k (k + m) with
      | some v =>
        have hv' : FloatKind.f64.format.div (leastB (A (k + m) k)) (mostF (A (k + m)) k (n - k)) = some v := hv
        cases ho : (FloatKind.f64.format.order v (pvS A n k m).1 == some Ordering.gt)
        · have e5 := tV ho
          have e4 : pvS A n k (m + 1) = ((pvS A n k m).1, (pvS A n k m).2) := by
            show (if abv (valO A n k (k + m)) (pvS A n k m).1 = true then _ else _) = _
            rw [hv]
            simp only [abv, ho, Bool.false_eq_true, if_false]
          simp -implicitDefEqProofs only [go_sem, hv', e5, w1]
          exact fin _ _ e4 (by simp -implicitDefEqProofs only [go_sem]) (by simp -implicitDefEqProofs only [go_sem]) (by simp -implicitDefEqProofs only [go_sem]) (by simp -implicitDefEqProofs only [go_sem]) (by simp -implicitDefEqProofs only [go_sem]) (fun k' o ho => by simp -implicitDefEqProofs only [go_sem, ho])
        · have e5 := tV ho
          have e4 : pvS A n k (m + 1) = (v, ((k + m : Nat) : Int)) := by
            show (if abv (valO A n k (k + m)) (pvS A n k m).1 = true then _ else _) = _
            rw [hv]
            simp only [abv, ho, if_true, Option.getD_some]
          simp -implicitDefEqProofs only [go_sem, hv', e5, w1]
          exact fin _ _ e4 (by simp -implicitDefEqProofs only [go_sem]) (by simp -implicitDefEqProofs only [go_sem]) (by simp -implicitDefEqProofs only [go_sem]) (by simp -implicitDefEqProofs only [go_sem]) (by simp -implicitDefEqProofs only [go_sem]) (fun k' o ho => by simp -implicitDefEqProofs only [go_sem, ho])
      | none =>
        have hv' : FloatKind.f64.format.div (leastB (A (k + m) k)) (mostF (A (k + m)) k (n - k)) = none := hv
        have e4 : pvS A n k (m + 1) = ((pvS A n k m).1, (pvS A n k m).2) := by
          show (if abv (valO A n k (k + m)) (pvS A n k m).1 = true then _ else _) = _
          rw [hv]
          simp only [abv, Bool.false_eq_true, if_false]
        simp -implicitDefEqProofs only [go_sem, hv']
        intro r hr
        rw [stop_eq]
        have e5 := tV (nan_order (b := (pvS A n k m).1) hr)
        simp -implicitDefEqProofs only [go_sem, e5, w1]
        exact fin _ _ e4 (by simp -implicitDefEqProofs only [go_sem]) (by simp -implicitDefEqProofs only [go_sem]) (by simp -implicitDefEqProofs only [go_sem]) (by simp -implicitDefEqProofs only [go_sem]) (by simp -implicitDefEqProofs only [go_sem]) (fun k' o ho => by simp -implicitDefEqProofs only [go_sem, ho])
  · have eA : decide (((k + m : Nat) : Int) < (n : Int)) = false := fD (by omega)
    have hmn : m = n - k := by omega
    subst hmn
    have z1 : ∀ x : Nat, (0 : Int) ≤ (x : Int) := fun x => by omega
    rcases hat with h | ⟨a, h1, h2, h3⟩
    · have e6 : decide ((-1 : Int) < 0) = true := by decide
      have e7 : decide ((0 : Int) ≤ -1) = false := by decide
      have hH : pvH H kR κ n k (-1) = H := rfl
      simp -implicitDefEqProofs only [go_sem, eA, hS, hR, gl, h, e6, e7, hH]
      exact ⟨by simp -implicitDefEqProofs only [go_sem, FinP.resL1], fun k' o ho => by simp -implicitDefEqProofs only [go_sem, ho]⟩
    · have e6 : decide ((a : Int) < 0) = false := fD (by omega)
      have e7 : decide ((0 : Int) ≤ (a : Int)) = true := tD (by omega)
      have hH : pvH H kR κ n k (a : Int) = upd H kR (some (rowsO (swp κ k a) n)) := by
        unfold pvH
        rw [if_neg (by omega), Int.toNat_natCast]
      have ha : a < n := by omega
      have g1 := gsT_get κ ha
      have g2 := gsT_get κ hk
      have i1 : a + 1 ≤ n := ha
      have i2 : k + 1 ≤ n := hk
      have l2 : ((gsT κ n).set k (.gs (κ a))).length = n := by rw [List.length_set, gl]
      have st := gsT_set κ hk ha
      simp -implicitDefEqProofs only [go_sem, eA, hS, hR, gl, h3, e6, e7, hH]
      refine drawn_intro (by kernel_rfl) (by kernel_rfl) (by kernel_rfl) ?_
      simp -implicitDefEqProofs only [go_sem, hS, hR, gl, z1, ha, hk, g1, g2, i1, i2, l2, st, h3]
      rw [hH]
      exact ⟨by simp -implicitDefEqProofs only [go_sem, FinP.resL1], fun k' o ho => by
        by_cases hkk : k' = kR
        · subst hkk
          rw [upd_same] at ho
          simp -implicitDefEqProofs only [go_sem]
          exact ho
        · have hkk' : (k' = kR) = False := by simp [hkk]
          rw [upd_ne _ _ hkk] at ho
          simp -implicitDefEqProofs only [go_sem, hkk']
          exact ho⟩
end
end Go.Enc
