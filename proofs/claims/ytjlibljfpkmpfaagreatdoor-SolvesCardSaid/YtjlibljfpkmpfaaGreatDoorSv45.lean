/-
  Does the answer hold the solution? As the judge asks it.
-/
import Derived.Test.YtjlibljfpkmpfaaGreatDoorSv44
set_option linter.unusedSimpArgs false
set_option maxRecDepth 100000
namespace Go.Enc
open Go.Proofs Go.Enc.Dg Go.Enc.Nu Go.Enc.Fl Go.RowKit
theorem nr_chN {a b : Nm} (ha : Nr a 53 82) (hb : Nr b 53 82) (p : Int) : Nr (chN a b p) 220 100 := by
  unfold chN
  split
  · exact ha.mono (by omega) (by omega)
  · split
    · exact hb.mono (by omega) (by omega)
    · have s := ha.sum hb
      have h1 := s.lo
      have h2 := s.hi
      exact ⟨Nat.lt_of_lt_of_le s.n (Nat.pow_le_pow_right (by decide) (by omega)), by show -((100 : Nat) : Int) ≤ (nsum a b).e - 1; omega, by show (nsum a b).e - 1 ≤ ((100 : Nat) : Int); omega⟩
section
variable (A B : Nat → Nat × Nat) (n : Nat) (p : Int)
/-- The system that is looked at. -/
def cN (i j : Nat) : Nm := chN (loN (A (n * i + j))) (hiN (A (n * i + j))) (p.fdiv (2 ^ min (2 * (n * i + j)) 64))
def cB (i : Nat) : Nm := chN (loN (B i)) (hiN (B i)) (p.fdiv (2 ^ min (2 * i + 40) 64))
/-- What the judge asks of an answer's number. -/
def HeldI (O : Nat → Nat × Nat) (i : Nat) : Prop :=
  (nsign (detN n (cN A n p)) < 0 → nless (detN n (rpN (cN A n p) (cB B p) i)) (nprod (hiN (O i)) (detN n (cN A n p))) = false ∧ nless (nprod (loN (O i)) (detN n (cN A n p))) (detN n (rpN (cN A n p) (cB B p) i)) = false) ∧
  (¬ nsign (detN n (cN A n p)) < 0 → nless (detN n (rpN (cN A n p) (cB B p) i)) (nprod (loN (O i)) (detN n (cN A n p))) = false ∧ nless (nprod (hiN (O i)) (detN n (cN A n p))) (detN n (rpN (cN A n p) (cB B p) i)) = false)
end
set_option maxHeartbeats 8000000 in
theorem held_c (E : Nat → Option Value) {LA LB LO : List (Nat × Nat)} {n : Nat} (hn : n ≤ 4) (h1n : 1 ≤ n) (hA : LA.length = n * n) (hB : LB.length = n) (hO : LO.length = n) (bA : Bits LA) (bB : Bits LB) (gO : ∀ X ∈ LO, Gd X) (p : Int)
    (fA : ∀ X ∈ LA, Nr (loN X) 53 82 ∧ Nr (hiN X) 53 82) (fB : ∀ X ∈ LB, Nr (loN X) 53 82 ∧ Nr (hiN X) 53 82)
    (hd : nsign (detN n (cN (fun i => LA.getD i (0, 0)) n p)) ≠ 0) (hx : ∀ i, i < n → HeldI (fun i => LA.getD i (0, 0)) (fun i => LB.getD i (0, 0)) n p (fun i => LO.getD i (0, 0)) i) :
    DCall Tryz.prog E 112 [.sl 2 (boxC LA), .sl 2 (boxC LB), .sl 2 (boxC LO), intD p] (.data (bD true)) := by
  obtain ⟨A, hAe⟩ : ∃ A : Nat → Nat × Nat, (fun i => LA.getD i (0, 0)) = A := ⟨_, rfl⟩
  obtain ⟨B, hBe⟩ : ∃ B : Nat → Nat × Nat, (fun i => LB.getD i (0, 0)) = B := ⟨_, rfl⟩
  obtain ⟨O, hOe⟩ : ∃ O : Nat → Nat × Nat, (fun i => LO.getD i (0, 0)) = O := ⟨_, rfl⟩
  have gA : ∀ i, i < n * n → LA[i]? = some (A i) := fun i h => by rw [← hAe]; exact getD_some (by omega)
  have gB : ∀ i, i < n → LB[i]? = some (B i) := fun i h => by rw [← hBe]; exact getD_some (by omega)
  have gOe : ∀ i, i < n → LO[i]? = some (O i) := fun i h => by rw [← hOe]; exact getD_some (by omega)
  rw [hAe] at hd hx
  rw [hBe, hOe] at hx
  have hij : ∀ {i j}, i < n → j < n → n * i + j < n * n := fun {i j} hi hj => by
    have : n * i + n ≤ n * n := by rw [← Nat.mul_succ]; exact Nat.mul_le_mul_left _ hi
    omega
  have h16 : n * n ≤ 16 := Nat.mul_le_mul hn hn
  obtain ⟨c, hc⟩ : ∃ c, cN A n p = c := ⟨_, rfl⟩
  obtain ⟨cb, hcb⟩ : ∃ cb, cB B p = cb := ⟨_, rfl⟩
  have nrc : ∀ i j, i < n → j < n → Nr (c i j) 220 100 := fun i j hi hj => by
    have := fA _ (List.mem_of_getElem? (gA _ (hij hi hj)))
    rw [← hc]
    exact nr_chN this.1 this.2 _
  have nrb : ∀ i, i < n → Nr (cb i) 220 100 := fun i hi => by
    have := fB _ (List.mem_of_getElem? (gB _ hi))
    rw [← hcb]
    exact nr_chN this.1 this.2 _
  have call1 : ∀ i j, i < n → j < n → DCall Tryz.prog E 140 [boxD (A (n * i + j)), intD (p.fdiv (2 ^ min (2 * (n * i + j)) 64))] (.data (nmD (c i j))) := fun i j hi hj => by
    have hm := List.mem_of_getElem? (gA _ (hij hi hj))
    have f := fA _ hm
    rw [← hc]
    exact chosen_c E (made_b E (bA _ hm)) (f.1.mono (by omega) (by omega)) (f.2.mono (by omega) (by omega)) _
  have call2 : ∀ i, i < n → DCall Tryz.prog E 140 [boxD (B i), intD (p.fdiv (2 ^ min (2 * i + 40) 64))] (.data (nmD (cb i))) := fun i hi => by
    have hm := List.mem_of_getElem? (gB _ hi)
    have f := fB _ hm
    rw [← hcb]
    exact chosen_c E (made_b E (bB _ hm)) (f.1.mono (by omega) (by omega)) (f.2.mono (by omega) (by omega)) _
  have dK4 := dK_le (n := n) hn
  obtain ⟨d, hde⟩ : ∃ d, detN n c = d := ⟨_, rfl⟩
  have det1 : DCall Tryz.prog E 141 [.sl 1 (matC c n n), .sl 3 (rnC cb n), intD (-1)] (.data (nmD d)) := by
    have := det_c E n hn c cb (.sl 3 (rnC cb n)) (-1) (.inl rfl) (by rw [rpN_none]; exact nrc)
    rw [rpN_none, hde] at this
    exact this
  have nrd : Nr d 10000 400 := by
    rw [← hde]
    exact (Nr.det nrc).mono dK4 (by omega)
  have nrr : ∀ i, i < n → ∀ r k, r < n → k < n → Nr (rpN c cb i r k) 220 100 := fun i hi r k hr hk => by
    unfold rpN
    split
    · exact nrb r hr
    · exact nrc r k hr hk
  have det2 : ∀ i, i < n → DCall Tryz.prog E 141 [.sl 1 (matC c n n), .sl 3 (rnC cb n), intD i] (.data (nmD (detN n (rpN c cb i)))) := fun i hi => det_c E n hn c cb _ i (.inr ⟨rfl, by omega, by omega⟩) (nrr i hi)
  have nrx : ∀ i, i < n → Nr (detN n (rpN c cb i)) 10000 400 := fun i hi => (Nr.det (nrr i hi)).mono dK4 (by omega)
  have hmd : ∀ i, i < n → DCall Tryz.prog E 46 [boxD (O i)] (.data (nvD (loN (O i)) (hiN (O i)))) := fun i h => by
    have g := gO _ (List.mem_of_getElem? (gOe i h))
    exact made_b E ⟨g.l1, g.l2⟩
  unfold HeldI at hx
  rw [hc, hde] at hd
  rw [hc, hcb, hde] at hx
  have hsg := sign_c E d
  refine dcall_of Tryz.func112 rfl (by kernel_rfl) Tryz.ntmps112 (by kernel_rfl) (by simp) (rs := [.tmp 8]) rfl ?_
  rintro ⟨P, E, σ0, w0, base, n, kb, df, G0⟩ rfl rfl rfl rfl
  have clA := boxC_lq LA
  have clB := boxC_lq LB
  have clO := boxC_lq LO
  rw [hA] at clA
  rw [hB] at clB
  rw [hO] at clO
  have d2 := div_two
  have hmax : maxLen = 9223372036854775807 := by decide
  simp -implicitDefEqProofs only [go_sem, clB, d2]
  rw [stop_eq]
  refine dwp_nil 10 62 86 1 rfl rfl ?_
  refine dwp_nil 11 76 70 3 rfl rfl ?_
  refine dwp_loop (α := {i : Nat // i ≤ n}) (fun i => St.of [(0, .d (.sl 2 (boxC LA))), (1, .d (.sl 2 (boxC LB))), (2, .d (.sl 2 (boxC LO))), (3, .d (intD p)), (9, .d (intD n)), (10, .gs 62), (11, .gs 76), (12, .d (intD i.1))] [(62, rowsN3 c n i.1), (76, rowN3 cb i.1)]) (fun i => n - i.1)
    ⟨0, Nat.zero_le _⟩ (weak_of ?_ ?_ (by simp [refsOk, matT_refs, rnT_refs, refIn, T.ref])) (by kernel_rfl) (fun i => ?_)
  · have c0 : ((0 : Nat) : Int) = 0 := rfl
    simp -implicitDefEqProofs only [go_sem, c0, upd]
  · simp -implicitDefEqProofs only [go_sem, upd]
    exact ⟨rfl, rfl⟩
  obtain ⟨i, hi⟩ := i
  by_cases hiA : i < n
  · have eA : decide ((i : Int) < (n : Int)) = true := tD (by omega)
    have w1 : IntKind.i64.wrap ((i : Int) + 1) = ((i + 1 : Nat) : Int) := addN1 (by omega)
    have w3 : IntKind.i64.wrap ((n : Int) * (i : Int)) = ((n * i : Nat) : Int) := by
      have := hij hiA h1n
      rw [← Int.natCast_mul, w64 (by omega)]
    obtain ⟨i', hi'⟩ : ∃ i' : {i : Nat // i ≤ n}, i'.1 = i + 1 := ⟨⟨i + 1, hiA⟩, rfl⟩
    simp -implicitDefEqProofs only [go_sem, eA]
    rw [stop_eq]
    refine dwp_nil 13 58 70 3 rfl rfl ?_
    refine dwp_loop_l (α := {j : Nat // j ≤ n}) (fun j => St.of [(0, .d (.sl 2 (boxC LA))), (1, .d (.sl 2 (boxC LB))), (2, .d (.sl 2 (boxC LO))), (3, .d (intD p)), (9, .d (intD n)), (10, .gs 62), (11, .gs 76), (12, .d (intD i)), (13, .gs 58), (14, .d (intD j.1))] [(58, rowN3 (c i) j.1), (62, rowsN3 c n i), (76, rowN3 cb i)]) (fun j => n - j.1)
      ⟨0, Nat.zero_le _⟩ (leads_weak (weak_of ?_ ?_ (by simp [refsOk, matT_refs, rnT_refs, refIn, T.ref]))) (fun j => ?_)
    · have c0 : ((0 : Nat) : Int) = 0 := rfl
      simp -implicitDefEqProofs only [go_sem, c0, upd]
    · simp -implicitDefEqProofs only [go_sem, upd]
      rfl
    obtain ⟨j, hj⟩ := j
    by_cases hjA : j < n
    · refine dwp_of (by kernel_rfl) ?_
      have eB : decide ((j : Int) < (n : Int)) = true := tD (by omega)
      have hlt := hij hiA hjA
      have w2 : IntKind.i64.wrap ((j : Int) + 1) = ((j + 1 : Nat) : Int) := addN1 (by omega)
      have w4 : IntKind.i64.wrap (((n * i : Nat) : Int) + (j : Int)) = ((n * i + j : Nat) : Int) := by rw [w64 (by omega)]; omega
      have w5 : IntKind.i64.wrap (2 * ((n * i + j : Nat) : Int)) = ((2 * (n * i + j) : Nat) : Int) := by rw [w64 (by omega)]; omega
      have tk2 := boxC_tq (gA _ hlt)
      have q4 : (n * i + j) * 2 < n * n * 2 := by omega
      have q5 : (n * i + j) * 2 + 2 ≤ n * n * 2 := by omega
      have hc1 := call1 i j hiA hjA
      have tl : (rnT (c i) j).length = j * 3 := rnT_len _ _
      have a1 : (j * 3 + 3) / 3 = j + 1 := by omega
      have st : rnT (c i) j ++ [.d (bD (c i j).neg), .d (natD (c i j).n), .d (intD (c i j).e)] = rnT (c i) (j + 1) := rfl
      obtain ⟨j', hj'⟩ : ∃ j' : {j : Nat // j ≤ n}, j'.1 = j + 1 := ⟨⟨j + 1, hjA⟩, rfl⟩
      simp -implicitDefEqProofs only [go_sem, eB]
      refine drawn_intro (by kernel_rfl) (by kernel_rfl) (by kernel_rfl) ?_
      simp -implicitDefEqProofs only [go_sem, w3, w4, w5, clA, d2, q4, q5, tk2]
      refine Call.intro hc1 ?_
      simp -implicitDefEqProofs only [go_sem, tl, a1, st, rnT_kill, matT_kill, w2]
      refine ⟨by omega, by omega, j', leads_weak (weak_of ?_ ?_ (by simp [refsOk, matT_refs, rnT_refs, refIn, T.ref])), by simp only [hj']; omega⟩
      · simp -implicitDefEqProofs only [go_sem, hj']
      · simp -implicitDefEqProofs only [go_sem, hj', st, rnT_kill, matT_kill]
    · obtain rfl : j = n := by omega
      have eB : decide ((j : Int) < (j : Int)) = false := fD (by omega)
      refine dwp_leads (leads_comm 58 rfl (rnT_data _ _)) ?_
      refine dwp_of (by kernel_rfl) ?_
      have tl : (matT c j i).length = i := matT_len _ _ _
      have ms := matT_succ c j i
      have tl2 : (rnT cb i).length = i * 3 := rnT_len _ _
      have a1 : (i * 3 + 3) / 3 = i + 1 := by omega
      have st : rnT cb i ++ [.d (bD (cb i).neg), .d (natD (cb i).n), .d (intD (cb i).e)] = rnT cb (i + 1) := rfl
      have w4 : IntKind.i64.wrap (2 * (i : Int)) = ((2 * i : Nat) : Int) := by rw [w64 (by omega)]; omega
      have w5 : IntKind.i64.wrap (((2 * i : Nat) : Int) + 40) = ((2 * i + 40 : Nat) : Int) := by rw [w64 (by omega)]; omega
      have tk := boxC_tq (gB i hiA)
      have q1 : i * 2 < j * 2 := by omega
      have q2 : i * 2 + 2 ≤ j * 2 := by omega
      have hc2 := call2 i hiA
      simp -implicitDefEqProofs only [go_sem, eB, tl, ms, matT_comm, matT_kill, rnT_comm, rnT_kill, Nat.div_one]
      refine ⟨by omega, by omega, ?_⟩
      refine drawn_intro (by kernel_rfl) (by kernel_rfl) (by kernel_rfl) ?_
      simp -implicitDefEqProofs only [go_sem, w4, w5, clB, d2, q1, q2, tk]
      refine Call.intro hc2 ?_
      simp -implicitDefEqProofs only [go_sem, tl2, a1, st, ms, matT_comm, matT_kill, rnT_comm, rnT_kill, w1]
      refine ⟨by omega, by omega, i', weak_of ?_ ?_ (by simp [refsOk, matT_refs, rnT_refs, refIn, T.ref]), by simp only [hi']; omega⟩
      · simp -implicitDefEqProofs only [go_sem, hi']
      · simp -implicitDefEqProofs only [go_sem, hi', st, ms, matT_comm, matT_kill, rnT_comm, rnT_kill]
  · have eA : decide ((i : Int) < (n : Int)) = false := fD (by omega)
    obtain rfl : i = n := by omega
    simp -implicitDefEqProofs only [go_sem, eA, matT_data, rnT_data, matT_comm, rnT_comm]
    refine Call.intro det1 ?_
    have e0 := tV (show (nsign d == 0) = false by simp [hd])
    simp -implicitDefEqProofs only [go_sem]
    refine Call.intro hsg ?_
    simp -implicitDefEqProofs only [go_sem, e0]
    rw [stop_eq]
    refine dwp_loop (α := {k : Nat // k ≤ i}) (fun k => St.of [(2, .d (.sl 2 (boxC LO))), (9, .d (intD i)), (10, .d (.sl 1 (matC c i i))), (11, .d (.sl 3 (rnC cb i))), (17, .ptr 17 0), (18, .d (intD k.1))] [(17, nmO d)]) (fun k => i - k.1)
      ⟨0, Nat.zero_le _⟩ (weak_of ?_ ?_ (by simp [refsOk, refIn, T.ref])) (by kernel_rfl) (fun k => ?_)
    · have c0 : ((0 : Nat) : Int) = 0 := rfl
      simp -implicitDefEqProofs only [go_sem, c0]
    · simp -implicitDefEqProofs only [go_sem]
    obtain ⟨k, hk⟩ := k
    by_cases hkA : k < i
    · have eB : decide ((k : Int) < (i : Int)) = true := tD (by omega)
      have w1 : IntKind.i64.wrap ((k : Int) + 1) = ((k + 1 : Nat) : Int) := addN1 (by omega)
      obtain ⟨k', hk'⟩ : ∃ k' : {k : Nat // k ≤ i}, k'.1 = k + 1 := ⟨⟨k + 1, hkA⟩, rfl⟩
      have tk := boxC_tq (gOe k hkA)
      have q1 : k * 2 < i * 2 := by omega
      have q2 : k * 2 + 2 ≤ i * 2 := by omega
      have dt := det2 k hkA
      have nx := nrx k hkA
      have hk1 := hx k hkA
      have nl : Nr (loN (O k)) 60 1000 := nplain_nr _
      have nh : Nr (hiN (O k)) 60 1000 := nplain_nr _
      have hm := hmd k hkA
      generalize detN i (rpN c cb k) = x at *
      have o1 : NOk (loN (O k)) 100000 := (nl.ok (by omega)).mono (by omega)
      have o2 : NOk (hiN (O k)) 100000 := (nh.ok (by omega)).mono (by omega)
      have o3 : NOk d 100000 := (nrd.ok (by omega)).mono (by omega)
      have o4 : NOk x 100000 := (nx.ok (by omega)).mono (by omega)
      have o5 : NOk (nprod (loN (O k)) d) 100000 := ((nl.prod nrd).ok (by omega)).mono (by omega)
      have o6 : NOk (nprod (hiN (O k)) d) 100000 := ((nh.prod nrd).ok (by omega)).mono (by omega)
      have hp1 := product_c E o1 o3 (by omega)
      have hp2 := product_c E o2 o3 (by omega)
      have l1 := less_c E o4 o5 (by omega)
      have l2 := less_c E o6 o4 (by omega)
      have l3 := less_c E o4 o6 (by omega)
      have l4 := less_c E o5 o4 (by omega)
      generalize nprod (loN (O k)) d = lo at *
      generalize nprod (hiN (O k)) d = hi at *
      simp -implicitDefEqProofs only [go_sem, eB]
      refine Call.intro dt ?_
      simp -implicitDefEqProofs only [go_sem, clO, d2, q1, q2, tk]
      refine Call.intro hm ?_
      simp -implicitDefEqProofs only [go_sem]
      refine Call.intro hp1 ?_
      simp -implicitDefEqProofs only [go_sem]
      refine Call.intro hp2 ?_
      simp -implicitDefEqProofs only [go_sem]
      refine Call.intro hsg ?_
      by_cases hneg : nsign d < 0
      · have en := tB (tD hneg)
        obtain ⟨r1, r2⟩ := hk1.1 hneg
        rw [r1] at l3
        rw [r2] at l4
        simp -implicitDefEqProofs only [go_sem, en]
        refine Call.intro l3 ?_
        simp -implicitDefEqProofs only [go_sem]
        refine Call.intro l4 ?_
        simp -implicitDefEqProofs only [go_sem, w1]
        refine ⟨k', weak_of ?_ ?_ (by simp [refsOk, refIn, T.ref]), by simp only [hk']; omega⟩
        · simp -implicitDefEqProofs only [go_sem, hk']
        · simp -implicitDefEqProofs only [go_sem]
      · have en := tV (fD hneg)
        obtain ⟨r1, r2⟩ := hk1.2 hneg
        rw [r1] at l1
        rw [r2] at l2
        simp -implicitDefEqProofs only [go_sem, en]
        refine Call.intro l1 ?_
        simp -implicitDefEqProofs only [go_sem]
        refine Call.intro l2 ?_
        simp -implicitDefEqProofs only [go_sem, w1]
        refine ⟨k', weak_of ?_ ?_ (by simp [refsOk, refIn, T.ref]), by simp only [hk']; omega⟩
        · simp -implicitDefEqProofs only [go_sem, hk']
        · simp -implicitDefEqProofs only [go_sem]
    · have eB : decide ((k : Int) < (i : Int)) = false := fD (by omega)
      simp -implicitDefEqProofs only [go_sem, eB, finK]
end Go.Enc
