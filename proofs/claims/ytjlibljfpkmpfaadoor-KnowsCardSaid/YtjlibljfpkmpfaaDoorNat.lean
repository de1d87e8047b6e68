/-
  Natural numbers by their digits: the document's functions by their contracts.
-/
import Derived.Test.YtjlibljfpkmpfaaDoorFacts
import Derived.Test.YtjlibljfpkmpfaaDoorDraw4
import Derived.Test.YtjlibljfpkmpfaaDoorDig
set_option linter.unusedSimpArgs false
namespace Go.Enc
open Go.Proofs Go.Enc.Dg

/-- What reads as the one reads as the other. -/
theorem DCall.weak {P : Program} {E : Nat → Option Value} {f : FuncId} {args : List D} {d d' : D} (h : DCall P E f args (.data d)) (hw : ∀ σ u, Rep σ d u → Rep σ d' u) : DCall P E f args (.data d') := by
  intro σ w us hF hargs o a next Q hnext
  refine h σ w us hF hargs o a next Q fun u w' hA => hnext u w' ?_
  obtain ⟨σ', a1, a2, a3, a3', a4, a5⟩ := hA
  exact ⟨σ', a1, a2, a3, a3', a4, hw _ _ a5⟩

def dD (n : Nat) : D := .v (.int .i64 n)
/-- A list of digits. -/
abbrev digD (l : List Nat) : D := .sl 1 (l.map dD)
/-- A number. -/
abbrev natD (n : Nat) : D := digD (dg n)
/-- .. as a row of one's own. -/
def digT (l : List Nat) : List T := l.map fun n => .d (dD n)
theorem digT_map (l : List Nat) : (l.map dD).map T.d = digT l := by simp [digT]
theorem asDs_digT (l : List Nat) : asDs (digT l) = some (l.map dD) := by rw [← digT_map, asDs_map]
theorem digT_len (l : List Nat) : (digT l).length = l.length := by simp [digT]
theorem dD_len (l : List Nat) : (l.map dD).length = l.length := by simp
theorem dD_get {l : List Nat} {i x : Nat} (h : l[i]? = some x) : (l.map dD)[i]? = some (dD x) := by simp [h]
theorem digT_get {l : List Nat} {i x : Nat} (h : l[i]? = some x) : (digT l)[i]? = some (.d (dD x)) := by simp [digT, h]
theorem digT_snoc (l : List Nat) (x : Nat) : digT l ++ [.d (dD x)] = digT (l ++ [x]) := by simp [digT]
theorem digT_kill (k : Nat) (l : List Nat) : (digT l).map (killT k) = digT l := by simp [digT, killT]
theorem digT_set (l : List Nat) (i x : Nat) : (digT l).set i (.d (dD x)) = digT (l.set i x) := by simp [digT, List.map_set]
theorem kill_snoc (k : Nat) (l : List Nat) (x : Nat) : List.map (killT k) (digT l ++ [T.d (D.v (Value.int IntKind.i64 (x : Int)))]) = digT (l ++ [x]) := by
  rw [← digT_kill k (l ++ [x]), ← digT_snoc]; rfl
theorem digT_refs (l : List Nat) (ks : List Nat) : (digT l).all (refIn ks) = true := by simp [digT, refIn, T.ref]
attribute [go_sem] asDs_digT digT_len kill_snoc digD natD intD dD_len Int.toNat_natCast Int.natCast_nonneg Nat.mul_one Nat.div_one Nat.sub_zero and_self Int.natCast_zero
theorem get_of_lt {l : List Nat} {i : Nat} (h : i < l.length) : ∃ x, l[i]? = some x := ⟨l[i], by simp [h]⟩
theorem lt_of_get {l : List Nat} {i x : Nat} (h : l[i]? = some x) : i < l.length := by
  rcases Nat.lt_or_ge i l.length with h' | h'
  · exact h'
  · rw [List.getElem?_eq_none h'] at h; cases h

theorem tD {p : Prop} [Decidable p] (h : p) : decide p = true := decide_eq_true h
theorem fD {p : Prop} [Decidable p] (h : ¬ p) : decide p = false := decide_eq_false h
theorem dg_trim {l : List Nat} (hl : Dig l) {i : Nat} (hi : i ≤ l.length) (hz : ∀ j x, i ≤ j → l[j]? = some x → x = 0) (ht : i = 0 ∨ ∃ x, l[i - 1]? = some x ∧ x ≠ 0) : dg (vl l) = l.take i := by
  rw [← vl_trim l i hz]
  refine dg_of hl.take ?_
  rcases ht with rfl | ⟨x, hx, h0⟩
  · left; simp
  · by_cases h : i = 0
    · left; rw [h]; simp
    · right
      obtain ⟨m, rfl⟩ : ∃ m, i = m + 1 := ⟨i - 1, by omega⟩
      rw [List.length_take, Nat.min_eq_left hi, Nat.add_sub_cancel]
      rw [Nat.add_sub_cancel] at hx
      rw [vl_take hx]
      have := Nat.mul_le_mul_left (B ^ m) (show 1 ≤ x by omega)
      omega
theorem addN {c x : Nat} (h : c + x < 9223372036854775808) : IntKind.i64.wrap ((c : Int) + (x : Int)) = ((c + x : Nat) : Int) := by rw [w64 (by omega)]; omega
theorem addN1 {c : Nat} (h : c + 1 < 9223372036854775808) : IntKind.i64.wrap ((c : Int) + 1) = ((c + 1 : Nat) : Int) := by rw [w64 (by omega)]; omega
theorem subN {c x : Nat} (h : x ≤ c ∧ c < 9223372036854775808) : IntKind.i64.wrap ((c : Int) - (x : Int)) = ((c - x : Nat) : Int) := by rw [w64 (by omega)]; omega
theorem subN1 {c : Nat} (h : 1 ≤ c ∧ c < 9223372036854775808) : IntKind.i64.wrap ((c : Int) - 1) = ((c - 1 : Nat) : Int) := by rw [w64 (by omega)]; omega
theorem modB {n : Nat} : (n : Int).tmod 16777216 = ((n % 16777216 : Nat) : Int) := by rw [Int.tmod_eq_emod_of_nonneg (by omega)]; omega
theorem divB {n : Nat} (h : n < 9223372036854775808) : IntKind.i64.wrap ((n : Int).tdiv 16777216) = ((n / 16777216 : Nat) : Int) := by
  rw [Int.tdiv_eq_ediv_of_nonneg (by omega), w64 (by omega)]; omega
/-- Not too long. -/
def Sm (l : List Nat) : Prop := l.length ≤ 1048576
set_option maxRecDepth 100000 in
theorem trim_c (E : Nat → Option Value) (l : List Nat) (hl : Dig l) (hlen : l.length ≤ 1099511627776) : DCall Tryd.prog E 100 [digD l] (.data (natD (vl l))) := by
  refine dcall_of Tryd.func100 rfl (by kernel_rfl) Tryd.ntmps100 (by kernel_rfl) (by simp) (rs := [.tmp 2]) rfl ?_
  rintro ⟨P, E, σ0, w0, base, n, kb⟩ rfl rfl rfl rfl
  simp -implicitDefEqProofs only [go_sem, Int.reduceEq, ↓reduceIte, Nat.reduceEqDiff, Nat.reduceAdd, Nat.reduceMul, Nat.reduceSub, Nat.reduceDiv, Nat.reduceLeDiff, Nat.reduceLT, Nat.reduceBEq, Nat.reduceBNe, reduceCtorEq, Int.reduceLE, Int.reduceLT, Int.reduceToNat, decide_true, decide_false, digD]
  rw [stop_eq]
  refine dwp_loop (α := {i : Nat // i ≤ l.length ∧ ∀ j x, i ≤ j → l[j]? = some x → x = 0}) (fun i => St.of [(0, .d (digD l)), (3, .d (intD i.1))] []) (fun i => i.1)
    ⟨l.length, Nat.le_refl _, fun j x h1 h2 => by have := lt_of_get h2; omega⟩ (weak_of ?_ ?_ rfl) (by kernel_rfl) (fun i => ?_)
  · simp -implicitDefEqProofs only [go_sem, Int.reduceEq, ↓reduceIte, Nat.reduceEqDiff, Nat.reduceAdd, Nat.reduceMul, Nat.reduceSub, Nat.reduceDiv, Nat.reduceLeDiff, Nat.reduceLT, Nat.reduceBEq, Nat.reduceBNe, reduceCtorEq, Int.reduceLE, Int.reduceLT, Int.reduceToNat, decide_true, decide_false]
  · simp -implicitDefEqProofs only [go_sem, Int.reduceEq, ↓reduceIte, Nat.reduceEqDiff, Nat.reduceAdd, Nat.reduceMul, Nat.reduceSub, Nat.reduceDiv, Nat.reduceLeDiff, Nat.reduceLT, Nat.reduceBEq, Nat.reduceBNe, reduceCtorEq, Int.reduceLE, Int.reduceLT, Int.reduceToNat, decide_true, decide_false]
  · obtain ⟨i, hi, hz⟩ := i
    have fin : (i = 0 ∨ ∃ x, l[i - 1]? = some x ∧ x ≠ 0) → (T.d (D.sl 1 (List.take i (List.map dD l))) = T.d (D.sl 1 (List.map dD (dg (vl l))))) := fun ht => by
      rw [dg_trim hl hi hz ht, List.map_take]
    by_cases h0 : i = 0
    · have e0 : decide ((i : Int) > 0) = false := fD (by omega)
      have e3 : i * 1 ≤ l.length := by omega
      simp -implicitDefEqProofs only [go_sem, Int.reduceEq, ↓reduceIte, Nat.reduceEqDiff, Nat.reduceAdd, Nat.reduceMul, Nat.reduceSub, Nat.reduceDiv, Nat.reduceLeDiff, Nat.reduceLT, Nat.reduceBEq, Nat.reduceBNe, reduceCtorEq, Int.reduceLE, Int.reduceLT, Int.reduceToNat, decide_true, decide_false, e0, hi, finK]
      exact fin (.inl h0)
    · obtain ⟨x, hx⟩ := get_of_lt (l := l) (i := i - 1) (by omega)
      have e0 : decide ((i : Int) > 0) = true := tD (by omega)
      have e1 : IntKind.i64.wrap ((i : Int) - 1) = ((i - 1 : Nat) : Int) := by rw [w64 (by omega)]; omega
      have e2 := lt_of_get hx
      simp -implicitDefEqProofs only [go_sem, Int.reduceEq, ↓reduceIte, Nat.reduceEqDiff, Nat.reduceAdd, Nat.reduceMul, Nat.reduceSub, Nat.reduceDiv, Nat.reduceLeDiff, Nat.reduceLT, Nat.reduceBEq, Nat.reduceBNe, reduceCtorEq, Int.reduceLE, Int.reduceLT, Int.reduceToNat, decide_true, decide_false, e0, e1, e2, dD_get hx, dD]
      refine cond_intro (fun h => ?_) (fun h => ?_)
      · simp -implicitDefEqProofs only [go_sem, Int.reduceEq, ↓reduceIte, Nat.reduceEqDiff, Nat.reduceAdd, Nat.reduceMul, Nat.reduceSub, Nat.reduceDiv, Nat.reduceLeDiff, Nat.reduceLT, Nat.reduceBEq, Nat.reduceBNe, reduceCtorEq, Int.reduceLE, Int.reduceLT, Int.reduceToNat, decide_true, decide_false, e1]
        have hx0 : x = 0 := by simp at h; omega
        refine ⟨⟨i - 1, by omega, fun j y h1 h2 => ?_⟩, weak_of ?_ ?_ rfl, by simp only; omega⟩
        · by_cases hj : j = i - 1
          · subst hj; rw [hx] at h2; cases h2; exact hx0
          · exact hz j y (by omega) h2
        · simp -implicitDefEqProofs only [go_sem, Int.reduceEq, ↓reduceIte, Nat.reduceEqDiff, Nat.reduceAdd, Nat.reduceMul, Nat.reduceSub, Nat.reduceDiv, Nat.reduceLeDiff, Nat.reduceLT, Nat.reduceBEq, Nat.reduceBNe, reduceCtorEq, Int.reduceLE, Int.reduceLT, Int.reduceToNat, decide_true, decide_false]
        · simp -implicitDefEqProofs only [go_sem, Int.reduceEq, ↓reduceIte, Nat.reduceEqDiff, Nat.reduceAdd, Nat.reduceMul, Nat.reduceSub, Nat.reduceDiv, Nat.reduceLeDiff, Nat.reduceLT, Nat.reduceBEq, Nat.reduceBNe, reduceCtorEq, Int.reduceLE, Int.reduceLT, Int.reduceToNat, decide_true, decide_false]
      · have hx0 : x ≠ 0 := by simp at h; omega
        simp -implicitDefEqProofs only [go_sem, Int.reduceEq, ↓reduceIte, Nat.reduceEqDiff, Nat.reduceAdd, Nat.reduceMul, Nat.reduceSub, Nat.reduceDiv, Nat.reduceLeDiff, Nat.reduceLT, Nat.reduceBEq, Nat.reduceBNe, reduceCtorEq, Int.reduceLE, Int.reduceLT, Int.reduceToNat, decide_true, decide_false, hi, finK]
        exact fin (.inr ⟨x, hx, hx0⟩)

set_option maxRecDepth 100000 in
theorem nat_c (E : Nat → Option Value) (n : Nat) (hn : n < 2 ^ 62) : DCall Tryd.prog E 79 [intD n] (.data (natD n)) := by
  refine dcall_of Tryd.func79 rfl (by kernel_rfl) Tryd.ntmps79 (by kernel_rfl) (by simp) (rs := [.tmp 2]) rfl ?_
  rintro ⟨P, E, σ0, w0, base, n, kb⟩ rfl rfl rfl rfl
  simp -implicitDefEqProofs only [go_sem, Int.reduceEq, ↓reduceIte, Nat.reduceEqDiff, Nat.reduceAdd, Nat.reduceMul, Nat.reduceSub, Nat.reduceDiv, Nat.reduceLeDiff, Nat.reduceLT, Nat.reduceBEq, Nat.reduceBNe, reduceCtorEq, Int.reduceLE, Int.reduceLT, Int.reduceToNat, decide_true, decide_false]
  rw [stop_eq]
  refine dwp_nil 3 10 3 1 rfl rfl ?_
  refine dwp_loop (α := {p : Nat × List Nat // Dig p.2 ∧ vl p.2 + B ^ p.2.length * p.1 = n ∧ (p.2 = [] ∨ B ^ (p.2.length - 1) ≤ n)}) (fun p => St.of [(0, .d (intD p.1.1)), (3, .gs 10)] [(10, ⟨some (3, 1, true), digT p.1.2⟩)]) (fun p => p.1.1)
    ⟨(n, []), by intro d hd; simp at hd, by simp [vl], .inl rfl⟩ (weak_of ?_ ?_ rfl) (by kernel_rfl) (fun p => ?_)
  · simp -implicitDefEqProofs only [go_sem, Int.reduceEq, ↓reduceIte, Nat.reduceEqDiff, Nat.reduceAdd, Nat.reduceMul, Nat.reduceSub, Nat.reduceDiv, Nat.reduceLeDiff, Nat.reduceLT, Nat.reduceBEq, Nat.reduceBNe, reduceCtorEq, Int.reduceLE, Int.reduceLT, Int.reduceToNat, decide_true, decide_false, upd]
  · simp -implicitDefEqProofs only [go_sem, Int.reduceEq, ↓reduceIte, Nat.reduceEqDiff, Nat.reduceAdd, Nat.reduceMul, Nat.reduceSub, Nat.reduceDiv, Nat.reduceLeDiff, Nat.reduceLT, Nat.reduceBEq, Nat.reduceBNe, reduceCtorEq, Int.reduceLE, Int.reduceLT, Int.reduceToNat, decide_true, decide_false, upd, digT]
  · obtain ⟨⟨m, l⟩, hl, hv, hc⟩ := p
    simp only at hl hv hc
    have hlen : l.length ≤ 3 := by
      rcases hc with rfl | hc
      · simp
      · rcases Nat.lt_or_ge l.length 4 with h | h
        · omega
        · have h1 := Nat.pow_le_pow_right (show 0 < B by decide) (show 3 ≤ l.length - 1 by omega)
          have h2 : B ^ 3 = 4722366482869645213696 := by decide
          omega
    by_cases h0 : m = 0
    · have e0 : decide ((m : Int) > 0) = false := fD (by omega)
      simp -implicitDefEqProofs only [go_sem, Int.reduceEq, ↓reduceIte, Nat.reduceEqDiff, Nat.reduceAdd, Nat.reduceMul, Nat.reduceSub, Nat.reduceDiv, Nat.reduceLeDiff, Nat.reduceLT, Nat.reduceBEq, Nat.reduceBNe, reduceCtorEq, Int.reduceLE, Int.reduceLT, Int.reduceToNat, decide_true, decide_false, e0, finK]
      have : dg n = l := by
        have h1 : vl l = n := by rw [← hv, h0]; omega
        rw [← h1] at hc ⊢
        exact dg_of hl hc
      rw [this]
    · have e0 : decide ((m : Int) > 0) = true := tD (by omega)
      have e1 : ((m : Int).tmod 16777216) = ((m % B : Nat) : Int) := by rw [Int.tmod_eq_emod_of_nonneg (by omega)]; simp only [B]; omega
      have hmn : m ≤ n := by
        have := Nat.mul_le_mul_right m (show 1 ≤ B ^ l.length from Nat.pow_pos (by decide))
        omega
      have e2 : IntKind.i64.wrap ((m : Int).tdiv 16777216) = ((m / B : Nat) : Int) := by
        rw [Int.tdiv_eq_ediv_of_nonneg (by omega), w64 (by omega)]; simp only [B]; omega
      simp -implicitDefEqProofs only [go_sem, Int.reduceEq, ↓reduceIte, Nat.reduceEqDiff, Nat.reduceAdd, Nat.reduceMul, Nat.reduceSub, Nat.reduceDiv, Nat.reduceLeDiff, Nat.reduceLT, Nat.reduceBEq, Nat.reduceBNe, reduceCtorEq, Int.reduceLE, Int.reduceLT, Int.reduceToNat, decide_true, decide_false, e0, e1, e2]
      have hmax : maxLen = 9223372036854775807 := by decide
      refine ⟨by omega, by omega, ⟨(m / B, l ++ [m % B]), hl.snoc (Nat.mod_lt _ (by decide)), ?_, .inr ?_⟩, weak_of ?_ ?_ (by simp [refsOk, digT_refs, refIn, T.ref]), Nat.div_lt_self (by omega) (by decide)⟩
      · simp only
        rw [vl_snoc, List.length_append, List.length_singleton, Nat.pow_succ, Nat.mul_assoc, Nat.add_assoc, ← Nat.mul_add, Nat.mod_add_div]
        exact hv
      · simp only [List.length_append, List.length_singleton, Nat.add_sub_cancel]
        have := Nat.mul_le_mul_left (B ^ l.length) (show 1 ≤ m by omega)
        omega
      · simp -implicitDefEqProofs only [go_sem, Int.reduceEq, ↓reduceIte, Nat.reduceEqDiff, Nat.reduceAdd, Nat.reduceMul, Nat.reduceSub, Nat.reduceDiv, Nat.reduceLeDiff, Nat.reduceLT, Nat.reduceBEq, Nat.reduceBNe, reduceCtorEq, Int.reduceLE, Int.reduceLT, Int.reduceToNat, decide_true, decide_false]
      · simp -implicitDefEqProofs only [go_sem, Int.reduceEq, ↓reduceIte, Nat.reduceEqDiff, Nat.reduceAdd, Nat.reduceMul, Nat.reduceSub, Nat.reduceDiv, Nat.reduceLeDiff, Nat.reduceLT, Nat.reduceBEq, Nat.reduceBNe, reduceCtorEq, Int.reduceLE, Int.reduceLT, Int.reduceToNat, decide_true, decide_false]

/-- One digit of a sum. -/
theorem plus_step {la lb l : List Nat} {i c x y : Nat} (hl : Dig l) (hi : l.length = i) (hv : vl l + B ^ i * c = vl (la.take i) + vl (lb.take i)) (hx : vl (la.take (i + 1)) = vl (la.take i) + B ^ i * x) (hy : vl (lb.take (i + 1)) = vl (lb.take i) + B ^ i * y) :
    Dig (l ++ [(c + x + y) % 16777216]) ∧ vl (l ++ [(c + x + y) % 16777216]) + B ^ (i + 1) * ((c + x + y) / 16777216) = vl (la.take (i + 1)) + vl (lb.take (i + 1)) := by
  refine ⟨hl.snoc (Nat.mod_lt _ (by decide)), ?_⟩
  rw [vl_snoc, hi, hx, hy, Nat.pow_succ, Nat.mul_assoc, Nat.add_assoc, ← Nat.mul_add]
  have : (c + x + y) % 16777216 + B * ((c + x + y) / 16777216) = c + x + y := Nat.mod_add_div _ _
  rw [this, Nat.mul_add, Nat.mul_add]
  omega
theorem take_ge {l : List Nat} {i : Nat} (h : l.length ≤ i) : vl (l.take (i + 1)) = vl (l.take i) + B ^ i * 0 := by rw [vl_take_ge h, vl_take_ge (by omega)]; omega
theorem le_top {l : List Nat} {n i : Nat} (hn : dg n = l) (h : i < l.length) : B ^ i ≤ n := by
  subst hn
  have h0 : n ≠ 0 := fun e => by subst e; rw [dg_zero] at h; simp at h
  have := dg_ge h0
  have := Nat.pow_le_pow_right (show 0 < B by decide) (show i ≤ (dg n).length - 1 by omega)
  omega
set_option maxRecDepth 100000 in
theorem plus_c (E : Nat → Option Value) {a b : Nat} (ha : Sm (dg a)) (hb : Sm (dg b)) : DCall Tryd.prog E 80 [natD a, natD b] (.data (natD (a + b))) := by
  refine dcall_of Tryd.func80 rfl (by kernel_rfl) Tryd.ntmps80 (by kernel_rfl) (by simp) (rs := [.tmp 4]) rfl ?_
  rintro ⟨P, E, σ0, w0, base, n, kb⟩ rfl rfl rfl rfl
  obtain ⟨la, hla⟩ : ∃ la, dg a = la := ⟨_, rfl⟩
  obtain ⟨lb, hlb⟩ : ∃ lb, dg b = lb := ⟨_, rfl⟩
  have hda := dig_dg a
  have hdb := dig_dg b
  have hva := vl_dg a
  have hvb := vl_dg b
  unfold Sm at ha hb
  rw [hla] at ha hda hva
  rw [hlb] at hb hdb hvb
  simp -implicitDefEqProofs only [go_sem, Int.reduceEq, ↓reduceIte, Nat.reduceEqDiff, Nat.reduceAdd, Nat.reduceMul, Nat.reduceSub, Nat.reduceDiv, Nat.reduceLeDiff, Nat.reduceLT, Nat.reduceBEq, Nat.reduceBNe, reduceCtorEq, Int.reduceLE, Int.reduceLT, Int.reduceToNat, decide_true, decide_false, hla, hlb]
  rw [stop_eq]
  refine dwp_nil 5 50 3 1 rfl rfl ?_
  refine dwp_loop (α := {p : Nat × Nat × List Nat // Dig p.2.2 ∧ p.2.2.length = p.1 ∧ p.2.1 ≤ 1 ∧ vl p.2.2 + B ^ p.1 * p.2.1 = vl (la.take p.1) + vl (lb.take p.1) ∧ (p.1 = 0 ∨ B ^ (p.1 - 1) ≤ a + b) ∧ p.1 ≤ max la.length lb.length + 1})
    (fun p => St.of [(0, .d (digD la)), (1, .d (digD lb)), (5, .gs 50), (6, .d (intD p.1.2.1)), (7, .d (intD p.1.1))] [(50, ⟨some (3, 1, true), digT p.1.2.2⟩)]) (fun p => max la.length lb.length + 2 - p.1.1)
    ⟨(0, 0, []), by intro d hd; simp at hd, rfl, by simp, by simp [vl], .inl rfl, by simp⟩ (weak_of ?_ ?_ rfl) (by kernel_rfl) (fun p => ?_)
  · simp -implicitDefEqProofs only [go_sem, Int.reduceEq, ↓reduceIte, Nat.reduceEqDiff, Nat.reduceAdd, Nat.reduceMul, Nat.reduceSub, Nat.reduceDiv, Nat.reduceLeDiff, Nat.reduceLT, Nat.reduceBEq, Nat.reduceBNe, reduceCtorEq, Int.reduceLE, Int.reduceLT, Int.reduceToNat, decide_true, decide_false, upd, hla, hlb]
  · simp -implicitDefEqProofs only [go_sem, Int.reduceEq, ↓reduceIte, Nat.reduceEqDiff, Nat.reduceAdd, Nat.reduceMul, Nat.reduceSub, Nat.reduceDiv, Nat.reduceLeDiff, Nat.reduceLT, Nat.reduceBEq, Nat.reduceBNe, reduceCtorEq, Int.reduceLE, Int.reduceLT, Int.reduceToNat, decide_true, decide_false, upd, digT]
  · obtain ⟨⟨i, c, l⟩, hl, hi, hc, hv, ht, hm⟩ := p
    simp only at hl hi hc hv ht hm
    have hmax : maxLen = 9223372036854775807 := by decide
    have next : ∀ x y, x < 16777216 → y < 16777216 → vl (la.take (i + 1)) = vl (la.take i) + B ^ i * x → vl (lb.take (i + 1)) = vl (lb.take i) + B ^ i * y → B ^ i ≤ a + b → i + 1 ≤ max la.length lb.length + 1 →
        ∃ p' : {p : Nat × Nat × List Nat // Dig p.2.2 ∧ p.2.2.length = p.1 ∧ p.2.1 ≤ 1 ∧ vl p.2.2 + B ^ p.1 * p.2.1 = vl (la.take p.1) + vl (lb.take p.1) ∧ (p.1 = 0 ∨ B ^ (p.1 - 1) ≤ a + b) ∧ p.1 ≤ max la.length lb.length + 1},
          p'.1 = (i + 1, (c + x + y) / 16777216, l ++ [(c + x + y) % 16777216]) := fun x y hx hy h1 h2 h3 h4 => by
      obtain ⟨g1, g2⟩ := plus_step (c := c) hl hi hv h1 h2
      exact ⟨⟨_, g1, by simp [hi], by simp only; omega, g2, .inr (by simpa using h3), h4⟩, rfl⟩
    have hpos : 0 < B ^ i := Nat.pow_pos (by decide)
    by_cases hA : i < la.length
    · obtain ⟨x, hx⟩ := get_of_lt hA
      have hx2 : x < 16777216 := hda.get hx
      have eA : decide ((i : Int) < (la.length : Int)) = true := tD (by omega)
      have top : B ^ i ≤ a + b := by have := le_top hla hA; omega
      by_cases hB : i < lb.length
      · obtain ⟨y, hy⟩ := get_of_lt hB
        have hy2 : y < 16777216 := hdb.get hy
        have eB : decide ((i : Int) < (lb.length : Int)) = true := tD (by omega)
        simp  -implicitDefEqProofs (disch := first | omega | decide) only [go_sem, Int.reduceEq, ↓reduceIte, Nat.reduceEqDiff, Nat.reduceAdd, Nat.reduceMul, Nat.reduceSub, Nat.reduceDiv, Nat.reduceLeDiff, Nat.reduceLT, Nat.reduceBEq, Nat.reduceBNe, reduceCtorEq, Int.reduceLE, Int.reduceLT, Int.reduceToNat, decide_true, decide_false, eA, eB, hA, hB, dD_get hx, dD_get hy, dD, addN, addN1, modB, divB]
        refine ⟨by omega, by omega, ?_⟩
        obtain ⟨p', hp'⟩ := next x y hx2 hy2 (vl_take hx) (vl_take hy) top (by omega)
        refine ⟨p', weak_of ?_ ?_ (by simp [refsOk, digT_refs, refIn, T.ref]), by rw [hp']; omega⟩
        · simp -implicitDefEqProofs only [go_sem, Int.reduceEq, ↓reduceIte, Nat.reduceEqDiff, Nat.reduceAdd, Nat.reduceMul, Nat.reduceSub, Nat.reduceDiv, Nat.reduceLeDiff, Nat.reduceLT, Nat.reduceBEq, Nat.reduceBNe, reduceCtorEq, Int.reduceLE, Int.reduceLT, Int.reduceToNat, decide_true, decide_false, hp']
        · simp -implicitDefEqProofs only [go_sem, Int.reduceEq, ↓reduceIte, Nat.reduceEqDiff, Nat.reduceAdd, Nat.reduceMul, Nat.reduceSub, Nat.reduceDiv, Nat.reduceLeDiff, Nat.reduceLT, Nat.reduceBEq, Nat.reduceBNe, reduceCtorEq, Int.reduceLE, Int.reduceLT, Int.reduceToNat, decide_true, decide_false, hp']
      · have eB : decide ((i : Int) < (lb.length : Int)) = false := fD (by omega)
        simp  -implicitDefEqProofs (disch := first | omega | decide) only [go_sem, Int.reduceEq, ↓reduceIte, Nat.reduceEqDiff, Nat.reduceAdd, Nat.reduceMul, Nat.reduceSub, Nat.reduceDiv, Nat.reduceLeDiff, Nat.reduceLT, Nat.reduceBEq, Nat.reduceBNe, reduceCtorEq, Int.reduceLE, Int.reduceLT, Int.reduceToNat, decide_true, decide_false, eA, eB, hA, dD_get hx, dD, addN, addN1, modB, divB]
        refine ⟨by omega, by omega, ?_⟩
        obtain ⟨p', hp'⟩ := next x 0 hx2 (by omega) (vl_take hx) (take_ge (by omega)) top (by omega)
        refine ⟨p', weak_of ?_ ?_ (by simp [refsOk, digT_refs, refIn, T.ref]), by rw [hp']; omega⟩
        · simp -implicitDefEqProofs only [go_sem, Int.reduceEq, ↓reduceIte, Nat.reduceEqDiff, Nat.reduceAdd, Nat.reduceMul, Nat.reduceSub, Nat.reduceDiv, Nat.reduceLeDiff, Nat.reduceLT, Nat.reduceBEq, Nat.reduceBNe, reduceCtorEq, Int.reduceLE, Int.reduceLT, Int.reduceToNat, decide_true, decide_false, hp', Nat.add_zero]
        · simp -implicitDefEqProofs only [go_sem, Int.reduceEq, ↓reduceIte, Nat.reduceEqDiff, Nat.reduceAdd, Nat.reduceMul, Nat.reduceSub, Nat.reduceDiv, Nat.reduceLeDiff, Nat.reduceLT, Nat.reduceBEq, Nat.reduceBNe, reduceCtorEq, Int.reduceLE, Int.reduceLT, Int.reduceToNat, decide_true, decide_false, hp', Nat.add_zero]
        
    · have eA : decide ((i : Int) < (la.length : Int)) = false := fD (by omega)
      by_cases hB : i < lb.length
      · obtain ⟨y, hy⟩ := get_of_lt hB
        have hy2 : y < 16777216 := hdb.get hy
        have top : B ^ i ≤ a + b := by have := le_top hlb hB; omega
        have eB : decide ((i : Int) < (lb.length : Int)) = true := tD (by omega)
        simp  -implicitDefEqProofs (disch := first | omega | decide) only [go_sem, Int.reduceEq, ↓reduceIte, Nat.reduceEqDiff, Nat.reduceAdd, Nat.reduceMul, Nat.reduceSub, Nat.reduceDiv, Nat.reduceLeDiff, Nat.reduceLT, Nat.reduceBEq, Nat.reduceBNe, reduceCtorEq, Int.reduceLE, Int.reduceLT, Int.reduceToNat, decide_true, decide_false, eA, eB, hB, dD_get hy, dD, addN, addN1, modB, divB]
        refine ⟨by omega, by omega, ?_⟩
        obtain ⟨p', hp'⟩ := next 0 y (by omega) hy2 (take_ge (by omega)) (vl_take hy) top (by omega)
        refine ⟨p', weak_of ?_ ?_ (by simp [refsOk, digT_refs, refIn, T.ref]), by rw [hp']; omega⟩
        · simp -implicitDefEqProofs only [go_sem, Int.reduceEq, ↓reduceIte, Nat.reduceEqDiff, Nat.reduceAdd, Nat.reduceMul, Nat.reduceSub, Nat.reduceDiv, Nat.reduceLeDiff, Nat.reduceLT, Nat.reduceBEq, Nat.reduceBNe, reduceCtorEq, Int.reduceLE, Int.reduceLT, Int.reduceToNat, decide_true, decide_false, hp', Nat.add_zero]
        · simp -implicitDefEqProofs only [go_sem, Int.reduceEq, ↓reduceIte, Nat.reduceEqDiff, Nat.reduceAdd, Nat.reduceMul, Nat.reduceSub, Nat.reduceDiv, Nat.reduceLeDiff, Nat.reduceLT, Nat.reduceBEq, Nat.reduceBNe, reduceCtorEq, Int.reduceLE, Int.reduceLT, Int.reduceToNat, decide_true, decide_false, hp', Nat.add_zero]
        
      · have eB : decide ((i : Int) < (lb.length : Int)) = false := fD (by omega)
        have hv' := hv
        rw [vl_take_ge (by omega), vl_take_ge (by omega), hva, hvb] at hv'
        by_cases hC : c = 0
        · have eC : decide ((c : Int) > 0) = false := fD (by omega)
          simp  -implicitDefEqProofs (disch := first | omega | decide) only [go_sem, Int.reduceEq, ↓reduceIte, Nat.reduceEqDiff, Nat.reduceAdd, Nat.reduceMul, Nat.reduceSub, Nat.reduceDiv, Nat.reduceLeDiff, Nat.reduceLT, Nat.reduceBEq, Nat.reduceBNe, reduceCtorEq, Int.reduceLE, Int.reduceLT, Int.reduceToNat, decide_true, decide_false, eA, eB, eC, finK]
          have : dg (a + b) = l := by
            have h1 : vl l = a + b := by rw [← hv', hC]; omega
            rw [← h1]
            refine dg_of hl ?_
            rcases ht with ht | ht
            · left; exact List.eq_nil_of_length_eq_zero (by omega)
            · right; rw [hi, h1]; exact ht
          rw [this]
        · have eC : decide ((c : Int) > 0) = true := tD (by omega)
          have top : B ^ i ≤ a + b := by
            have := Nat.mul_le_mul_left (B ^ i) (show 1 ≤ c by omega)
            omega
          have him : i ≤ max la.length lb.length := by
            rcases Nat.lt_or_ge (max la.length lb.length) i with h | h
            · exfalso
              have h1 := dg_lt a
              have h2 := dg_lt b
              rw [hla] at h1
              rw [hlb] at h2
              have h3 := Nat.pow_le_pow_right (show 0 < B by decide) (show la.length ≤ i - 1 by omega)
              have h4 := Nat.pow_le_pow_right (show 0 < B by decide) (show lb.length ≤ i - 1 by omega)
              have h5 : B ^ i = B ^ (i - 1) * B := by rw [← Nat.pow_succ]; congr 1; omega
              simp only [B] at *
              omega
            · exact h
          simp  -implicitDefEqProofs (disch := first | omega | decide) only [go_sem, Int.reduceEq, ↓reduceIte, Nat.reduceEqDiff, Nat.reduceAdd, Nat.reduceMul, Nat.reduceSub, Nat.reduceDiv, Nat.reduceLeDiff, Nat.reduceLT, Nat.reduceBEq, Nat.reduceBNe, reduceCtorEq, Int.reduceLE, Int.reduceLT, Int.reduceToNat, decide_true, decide_false, eA, eB, eC, addN1, modB, divB]
          refine ⟨by omega, by omega, ?_⟩
          obtain ⟨p', hp'⟩ := next 0 0 (by omega) (by omega) (take_ge (by omega)) (take_ge (by omega)) top (by omega)
          refine ⟨p', weak_of ?_ ?_ (by simp [refsOk, digT_refs, refIn, T.ref]), by rw [hp']; omega⟩
          · simp -implicitDefEqProofs only [go_sem, Int.reduceEq, ↓reduceIte, Nat.reduceEqDiff, Nat.reduceAdd, Nat.reduceMul, Nat.reduceSub, Nat.reduceDiv, Nat.reduceLeDiff, Nat.reduceLT, Nat.reduceBEq, Nat.reduceBNe, reduceCtorEq, Int.reduceLE, Int.reduceLT, Int.reduceToNat, decide_true, decide_false, hp', Nat.add_zero]
          · simp -implicitDefEqProofs only [go_sem, Int.reduceEq, ↓reduceIte, Nat.reduceEqDiff, Nat.reduceAdd, Nat.reduceMul, Nat.reduceSub, Nat.reduceDiv, Nat.reduceLeDiff, Nat.reduceLT, Nat.reduceBEq, Nat.reduceBNe, reduceCtorEq, Int.reduceLE, Int.reduceLT, Int.reduceToNat, decide_true, decide_false, hp', Nat.add_zero]
          
end Go.Enc
