/-
  Is the answer narrow? As the judge asks it.
-/
import Derived.Test.YtjlibljfpkmpfaaGreatDoorSv41
import Derived.Test.YtjlibljfpkmpfaaGreatDoorSv43
set_option linter.unusedSimpArgs false
set_option maxRecDepth 100000
namespace Go.Enc
open Go.Proofs Go.Enc.Dg Go.Enc.Nu Go.Enc.Fl Go.RowKit
def e30N (a : Nm) : Nm := ⟨a.neg, a.n, a.e - 30⟩
theorem nr_e30N {a : Nm} {k L : Nat} (h : Nr a k L) : Nr (e30N a) k (L + 30) := ⟨h.n, by have := h.lo; show _ ≤ a.e - 30; omega, by have := h.hi; show a.e - 30 ≤ _; omega⟩
theorem val_e30N (a : Nm) : val (e30N a) = 1 / 1073741824 * val a := by
  have h : (2 : Rat) ^ (a.e - 30) = 2 ^ a.e * 2 ^ (-30 : Int) := by rw [← zpow2_add]; congr 1
  have e : (2 : Rat) ^ (-30 : Int) = 1 / 1073741824 := by decide +kernel
  unfold val e30N
  simp only
  rw [h, e]
  split <;> grind
theorem val_e2N (a : Nm) : val (e2N a) = 4 * val a := by
  have h : (2 : Rat) ^ (a.e + 2) = 2 ^ a.e * 2 ^ (2 : Int) := zpow2_add _ _
  have e : (2 : Rat) ^ (2 : Int) = 4 := by decide +kernel
  unfold val e2N
  simp only
  rw [h, e]
  split <;> grind
/-- Two numbers. -/
def prN (a b : Nm) (k : Nat) : Nm := if k = 0 then a else b
/-- The amounts of the ends so far. -/
def GrN (O : Nat → Nat × Nat) (g : Nm) (i : Nat) : Prop := Nr g 60 1000 ∧ ∀ r, r < i → am (iL (O r)) ≤ val g ∧ am (iH (O r)) ≤ val g
set_option maxHeartbeats 4000000 in
theorem narrow_c (E : Nat → Option Value) {LO : List (Nat × Nat)} {n : Nat} (hn : n ≤ 4) (hO : LO.length = n) (gO : ∀ X ∈ LO, Gd X) (hw : ∀ G : Rat, (∀ i, i < n → Am G (LO.getD i (0, 0))) → ∀ i, i < n → Wdt (1 / 1073741824 * G) (LO.getD i (0, 0))) :
    DCall Tryz.prog E 113 [.sl 2 (boxC LO)] (.data (bD true)) := by
  obtain ⟨O, hOe⟩ : ∃ O : Nat → Nat × Nat, (fun i => LO.getD i (0, 0)) = O := ⟨_, rfl⟩
  have hOe' : ∀ i, LO.getD i (0, 0) = O i := fun i => congrFun hOe i
  have gE : ∀ i, i < n → LO[i]? = some (O i) := fun i h => by rw [← hOe]; exact getD_some (by omega)
  have gG : ∀ i, i < n → Gd (O i) := fun i h => gO _ (List.mem_of_getElem? (gE i h))
  simp only [hOe'] at hw
  have hmd : ∀ i, i < n → DCall Tryz.prog E 46 [boxD (O i)] (.data (nvD (loN (O i)) (hiN (O i)))) := fun i h => made_b E ⟨(gG i h).l1, (gG i h).l2⟩
  have nrL : ∀ X, Nr (loN X) 60 1000 := fun X => nplain_nr _
  have nrH : ∀ X, Nr (hiN X) 60 1000 := fun X => nplain_nr _
  refine dcall_of Tryz.func113 rfl (by kernel_rfl) Tryz.ntmps113 (by kernel_rfl) (by simp) (rs := [.tmp 2]) rfl ?_
  rintro ⟨P, E, σ0, w0, base, n, kb, df, G0⟩ rfl rfl rfl rfl
  have clO := boxC_lq LO
  rw [hO] at clO
  have d2 := div_two
  have hmax : maxLen = 9223372036854775807 := by decide
  simp -implicitDefEqProofs only [go_sem]
  rw [stop_eq]
  refine dwp_cell 3 1 (natD 0) rfl rfl (fun σ u h => ?_) ?_
  · have e : natD 0 = .sl 1 [] := by rw [show natD 0 = digD (dg 0) from rfl, dg_zero]; rfl
    rw [e]
    exact rep_nil 1 σ u h
  refine dwp_loop (α := {p : Nat × Nm // p.1 ≤ n ∧ GrN O p.2 p.1}) (fun p => St.of [(0, .d (.sl 2 (boxC LO))), (3, .ptr 3 0), (4, .d (intD p.1.1))] [(3, nmO p.1.2)]) (fun p => n - p.1.1)
    ⟨(0, nzero), Nat.zero_le _, nr_zero _ _, fun r h => by omega⟩ (weak_of ?_ ?_ (by simp [refsOk, refIn, T.ref])) (by kernel_rfl) (fun p => ?_)
  · have c0 : ((0 : Nat) : Int) = 0 := rfl
    simp -implicitDefEqProofs only [go_sem, c0, upd]
  · simp -implicitDefEqProofs only [go_sem, upd, nzero]
  obtain ⟨⟨i, g⟩, hi, hg⟩ := p
  simp only at hi hg
  by_cases hA : i < n
  · have eA : decide ((i : Int) < (n : Int)) = true := tD (by omega)
    have w1 : IntKind.i64.wrap ((i : Int) + 1) = ((i + 1 : Nat) : Int) := addN1 (by omega)
    have tk := boxC_tq (gE i hA)
    have q1 : i * 2 < n * 2 := by omega
    have q2 : i * 2 + 2 ≤ n * 2 := by omega
    have vl := val_lo (gG i hA)
    have vh := val_hi (gG i hA)
    have a1 := amount_c E (loN (O i))
    have a2 := amount_c E (hiN (O i))
    simp -implicitDefEqProofs only [go_sem, eA, clO, d2, q1, q2, tk]
    refine Call.intro (hmd i hA) ?_
    simp -implicitDefEqProofs only [go_sem]
    refine drawn_intro (by kernel_rfl) (by kernel_rfl) (by kernel_rfl) ?_
    simp -implicitDefEqProofs only [go_sem]
    refine Call.intro a1 ?_
    simp -implicitDefEqProofs only [go_sem]
    refine Call.intro a2 ?_
    simp -implicitDefEqProofs only [go_sem]
    rw [stop_eq]
    obtain ⟨pr, hpr⟩ : ∃ pr, prN (nam (loN (O i))) (nam (hiN (O i))) = pr := ⟨_, rfl⟩
    have nrp : ∀ k, Nr (pr k) 60 1000 := fun k => by
      rw [← hpr]
      unfold prN
      split
      · exact nr_nam (nrL _)
      · exact nr_nam (nrH _)
    have v0 : val (pr 0) = am (iL (O i)) := by rw [← hpr, ← vl, ← val_nam]; rfl
    have v1 : val (pr 1) = am (iH (O i)) := by rw [← hpr, ← vh, ← val_nam]; rfl
    have p0 : pr 0 = nam (loN (O i)) := by rw [← hpr]; rfl
    have p1 : pr 1 = nam (hiN (O i)) := by rw [← hpr]; rfl
    have rl2 : (rnC pr 2).length = 6 := rnC_len _ _
    refine dwp_loop (α := {p : Nat × Nm // p.1 ≤ 2 ∧ GrN O p.2 i ∧ ∀ k, k < p.1 → val (pr k) ≤ val p.2}) (fun p => St.of [(0, .d (.sl 2 (boxC LO))), (3, .ptr 3 0), (4, .d (intD i)), (32, .d (.sl 3 (rnC pr 2))), (33, .d (intD 2)), (34, .d (intD p.1.1))] [(3, nmO p.1.2)]) (fun p => 2 - p.1.1)
      ⟨(0, g), by omega, hg, fun k h => by omega⟩ (weak_of ?_ ?_ (by simp [refsOk, refIn, T.ref])) (by kernel_rfl) (fun p => ?_)
    · have c0 : ((0 : Nat) : Int) = 0 := rfl
      have c2 : ((2 : Nat) : Int) = 2 := rfl
      simp -implicitDefEqProofs only [go_sem, c0, c2, rnC, p0, p1]
    · simp -implicitDefEqProofs only [go_sem]
    obtain ⟨⟨k, g'⟩, hk, hg', hkk⟩ := p
    simp only at hk hg' hkk
    by_cases hB : k < 2
    · have eB : decide ((k : Int) < 2) = true := tD (by omega)
      have w2 : IntKind.i64.wrap ((k : Int) + 1) = ((k + 1 : Nat) : Int) := addN1 (by omega)
      have tk2 := rnC_take pr hB
      have q3 : k * 3 < 6 := by omega
      have q4 : k * 3 + 3 ≤ 6 := by omega
      have q5 : k < 2 := hB
      have hl := less_c E (hg'.1.ok (by omega)) ((nrp k).ok (by omega)) (by omega)
      have d6 : 6 / 3 = 2 := rfl
      have lt := nless_iff g' (pr k)
      simp -implicitDefEqProofs only [go_sem, eB, rl2, d6, q3, q4, q5, tk2]
      refine Call.intro hl ?_
      cases hb : nless g' (pr k) with
      | true =>
        rw [hb] at lt
        have lt' := of_decide_eq_true lt.symm
        obtain ⟨p', hp'⟩ : ∃ p' : {p : Nat × Nm // p.1 ≤ 2 ∧ GrN O p.2 i ∧ ∀ k, k < p.1 → val (pr k) ≤ val p.2}, p'.1 = (k + 1, pr k) := ⟨⟨(k + 1, pr k), by simp only; omega, ⟨nrp k, fun r hr => by
          have := hg'.2 r hr
          exact ⟨by grind, by grind⟩⟩, fun c hc => by
          simp only at hc ⊢
          rcases Nat.lt_or_ge c k with h | h
          · have := hkk c h
            grind
          · rw [show c = k by omega]; exact Rat.le_refl⟩, rfl⟩
        simp -implicitDefEqProofs only [go_sem, w2]
        refine ⟨p', weak_of ?_ ?_ (by simp [refsOk, refIn, T.ref]), by simp only [hp']; omega⟩
        · simp -implicitDefEqProofs only [go_sem, hp']
        · simp -implicitDefEqProofs only [go_sem, hp']
      | false =>
        rw [hb] at lt
        have lt' := of_decide_eq_false lt.symm
        obtain ⟨p', hp'⟩ : ∃ p' : {p : Nat × Nm // p.1 ≤ 2 ∧ GrN O p.2 i ∧ ∀ k, k < p.1 → val (pr k) ≤ val p.2}, p'.1 = (k + 1, g') := ⟨⟨(k + 1, g'), by simp only; omega, hg', fun c hc => by
          simp only at hc ⊢
          rcases Nat.lt_or_ge c k with h | h
          · exact hkk c h
          · rw [show c = k by omega]; grind⟩, rfl⟩
        simp -implicitDefEqProofs only [go_sem, w2]
        refine ⟨p', weak_of ?_ ?_ (by simp [refsOk, refIn, T.ref]), by simp only [hp']; omega⟩
        · simp -implicitDefEqProofs only [go_sem, hp']
        · simp -implicitDefEqProofs only [go_sem, hp']
    · have eB : decide ((k : Int) < 2) = false := fD (by omega)
      obtain ⟨p', hp'⟩ : ∃ p' : {p : Nat × Nm // p.1 ≤ n ∧ GrN O p.2 p.1}, p'.1 = (i + 1, g') := ⟨⟨(i + 1, g'), hA, hg'.1, fun r hr => by
        rcases Nat.lt_or_ge r i with h | h
        · exact hg'.2 r h
        · obtain rfl : r = i := by simp only at hr; omega
          have h0 := hkk 0 (by omega)
          have h1 := hkk 1 (by omega)
          rw [v0] at h0
          rw [v1] at h1
          exact ⟨h0, h1⟩⟩, rfl⟩
      simp -implicitDefEqProofs only [go_sem, eB, w1]
      refine ⟨p', weak_of ?_ ?_ (by simp [refsOk, refIn, T.ref]), by simp only [hp']; omega⟩
      · simp -implicitDefEqProofs only [go_sem, hp']
      · simp -implicitDefEqProofs only [go_sem, hp']
  · have eA : decide ((i : Int) < (n : Int)) = false := fD (by omega)
    obtain rfl : i = n := by omega
    have g1 := hg.1.lo
    have g2 := hg.1.hi
    have w3 : IntKind.i64.wrap (g.e - 30) = (e30N g).e := by rw [w64 (by omega)]; rfl
    have n1 : NOk (e30N g) 100000 := ((nr_e30N hg.1).ok (by omega)).mono (by omega)
    have thin := hw (val g) (fun r hr => by
      have h := hg.2 r hr
      have s1 := am_spec (iL (O r))
      have s2 := am_spec (iH (O r))
      exact ⟨by grind, by grind⟩)
    have eg : nmO (e30N g) = ⟨none, [.d (bD g.neg), .d (natD g.n), .d (intD (e30N g).e)]⟩ := rfl
    simp -implicitDefEqProofs only [go_sem, eA, clO, d2, w3]
    rw [stop_eq]
    refine dwp_loop (α := {j : Nat // j ≤ i}) (fun j => St.of [(0, .d (.sl 2 (boxC LO))), (3, .ptr 3 0), (9, .d (intD j.1))] [(3, nmO (e30N g))]) (fun j => i - j.1)
      ⟨0, Nat.zero_le _⟩ (weak_of ?_ ?_ (by simp [refsOk, refIn, T.ref])) (by kernel_rfl) (fun j => ?_)
    · have c0 : ((0 : Nat) : Int) = 0 := rfl
      simp -implicitDefEqProofs only [go_sem, c0]
    · simp -implicitDefEqProofs only [go_sem, eg]
    obtain ⟨j, hj⟩ := j
    by_cases hC : j < i
    · have eC : decide ((j : Int) < (i : Int)) = true := tD (by omega)
      have w1 : IntKind.i64.wrap ((j : Int) + 1) = ((j + 1 : Nat) : Int) := addN1 (by omega)
      have tk := boxC_tq (gE j hC)
      have q1 : j * 2 < i * 2 := by omega
      have q2 : j * 2 + 2 ≤ i * 2 := by omega
      have hneg := negated_c E (loN (O j))
      have hsum := sum_c E (((nrH (O j)).ok (by omega)).mono (j := 60) (by omega)) (((nrL (O j)).neg.ok (by omega)).mono (by omega)) (by omega)
      have n2 : NOk (nsum (hiN (O j)) (nneg (loN (O j)))) 100000 := ((((nrH (O j)).sum (nrL (O j)).neg).ok (by omega)).mono (by omega))
      have hl := less_c E n1 n2 (by omega)
      have lt : nless (e30N g) (nsum (hiN (O j)) (nneg (loN (O j)))) = false := by
        rw [nless_iff, val_e30N, val_nsum, val_nneg, val_lo (gG j hC), val_hi (gG j hC)]
        have := thin j hC
        unfold Wdt at this
        exact decide_eq_false (by grind)
      rw [lt] at hl
      obtain ⟨j', hj'⟩ : ∃ j' : {j : Nat // j ≤ i}, j'.1 = j + 1 := ⟨⟨j + 1, hC⟩, rfl⟩
      generalize nsum (hiN (O j)) (nneg (loN (O j))) = d at *
      simp -implicitDefEqProofs only [go_sem, eC, clO, d2, q1, q2, tk]
      refine Call.intro (hmd j hC) ?_
      simp -implicitDefEqProofs only [go_sem]
      refine Call.intro hneg ?_
      simp -implicitDefEqProofs only [go_sem]
      refine Call.intro hsum ?_
      simp -implicitDefEqProofs only [go_sem]
      refine Call.intro hl ?_
      simp -implicitDefEqProofs only [go_sem, w1]
      refine ⟨j', weak_of ?_ ?_ (by simp [refsOk, refIn, T.ref]), by simp only [hj']; omega⟩
      · simp -implicitDefEqProofs only [go_sem, hj']
      · simp -implicitDefEqProofs only [go_sem]
    · have eC : decide ((j : Int) < (i : Int)) = false := fD (by omega)
      simp -implicitDefEqProofs only [go_sem, eC, clO, d2, finK]
end Go.Enc
