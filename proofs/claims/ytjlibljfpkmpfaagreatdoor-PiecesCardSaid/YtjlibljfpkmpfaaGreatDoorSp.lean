/-
  The least interval around some numbers; what two intervals have in common; the interval of a box.
-/
import Derived.Test.YtjlibljfpkmpfaaGreatDoorQr
import Derived.Test.YtjlibljfpkmpfaaGreatDoorMk
set_option linter.unusedSimpArgs false
set_option maxRecDepth 100000
namespace Go.Enc
open Go.Proofs Go.Enc.Dg Go.Enc.Nu

def nmC (a : Nm) : List D := [bD a.neg, natD a.n, intD a.e]
theorem nmC_len (a : Nm) : (nmC a).length = 3 := rfl
theorem nfl_len (l : List Nm) : (l.flatMap nmC).length = l.length * 3 := by
  induction l with
  | nil => rfl
  | cons o l ih => simp only [List.flatMap_cons, List.length_append, ih, nmC_len, List.length_cons, Nat.add_mul]; omega
theorem nfl_at : ∀ {l : List Nm} {i : Nat} {o : Nm}, l[i]? = some o → ((l.flatMap nmC).drop (i * 3)).take 3 = nmC o
  | [], i, o, h => by simp at h
  | a :: l, 0, o, h => by
    simp only [List.getElem?_cons_zero, Option.some.injEq] at h
    subst h
    rw [Nat.zero_mul, List.drop_zero, List.flatMap_cons, List.take_append_of_le_length (by simp [nmC_len])]
    exact List.take_of_length_le (by simp [nmC_len])
  | a :: l, i + 1, o, h => by
    simp only [List.getElem?_cons_succ] at h
    rw [List.flatMap_cons, Nat.add_mul, Nat.one_mul, Nat.add_comm, ← List.drop_drop, List.drop_left' (nmC_len a)]
    exact nfl_at h
/-- Some numbers' datum. -/
abbrev nlD (l : List Nm) : D := .sl 3 (l.flatMap nmC)
theorem div3 (n : Nat) : n * 3 / 3 = n := Nat.mul_div_cancel _ (by decide)
/-- The first of the least of the first numbers. -/
def loAt (f : Nat → Nm) : Nat → Nm
  | 0 => f 0
  | n + 1 => if nless (f (n + 1)) (loAt f n) = true then f (n + 1) else loAt f n
def hiAt (f : Nat → Nm) : Nat → Nm
  | 0 => f 0
  | n + 1 => if nless (hiAt f n) (f (n + 1)) = true then f (n + 1) else hiAt f n
theorem loAt_ok {f : Nat → Nm} {k m : Nat} (h : ∀ n, n < m → NOk (f n) k) : ∀ n, n < m → NOk (loAt f n) k
  | 0, hn => h 0 hn
  | n + 1, hn => by
    unfold loAt
    split
    · exact h _ hn
    · exact loAt_ok h n (by omega)
theorem hiAt_ok {f : Nat → Nm} {k m : Nat} (h : ∀ n, n < m → NOk (f n) k) : ∀ n, n < m → NOk (hiAt f n) k
  | 0, hn => h 0 hn
  | n + 1, hn => by
    unfold hiAt
    split
    · exact h _ hn
    · exact hiAt_ok h n (by omega)
abbrev nmT (a : Nm) : List T := [.d (bD a.neg), .d (natD a.n), .d (intD a.e)]
theorem span_c (E : Nat → Option Value) {l : List Nm} {f : Nat → Nm} {m k : Nat} (hl : l.length = m + 1) (hm : m ≤ 1000) (hf : ∀ i, i < m + 1 → l[i]? = some (f i)) (hk : k ≤ 1000000) (hok : ∀ i, i < m + 1 → NOk (f i) k) :
    DCall Tryz.prog E 49 [nlD l] (.data (.tup [boxD (aroundB (loAt f m) (hiAt f m)).1, intD (aroundB (loAt f m) (hiAt f m)).2])) := by
  refine dcall_of Tryz.func49 rfl (by kernel_rfl) Tryz.ntmps49 (by kernel_rfl) (by simp) (rs := [.cell 2 27, .tmp 3]) rfl ?_
  rintro ⟨P, E, σ0, w0, base, n, kb, df⟩ rfl rfl rfl rfl
  have hmax : maxLen = 9223372036854775807 := by decide
  have hlen := nfl_len l
  rw [hl] at hlen
  have h0 := nfl_at (hf 0 (by omega))
  have z0 : 0 < (m + 1) * 3 := by omega
  have z1 : 0 + 3 ≤ (m + 1) * 3 := by omega
  have z2 : 3 ≤ (m + 1) * 3 := by omega
  rw [Nat.zero_mul, List.drop_zero] at h0
  have hfin := around_c E (loAt_ok hok m (by omega)) (hiAt_ok hok m (by omega)) (by omega)
  obtain ⟨R, hR⟩ : ∃ R, aroundB (loAt f m) (hiAt f m) = R := ⟨_, rfl⟩
  rw [hR] at hfin ⊢
  simp -implicitDefEqProofs only [go_sem, hlen, h0, nmC, z0, z1, z2, div3]
  rw [stop_eq]
  refine dwp_loop (α := {i : Nat // i ≤ m}) (fun i => St.of [(0, .d (nlD l)), (2, .ptr 2 0), (4, .ptr 4 0), (5, .ptr 5 0), (6, .d (intD (i.1 + 1 : Nat)))]
    [(2, ⟨none, [.d (.v (.int .u64 0)), .d (.v (.int .u64 0))]⟩), (4, ⟨none, nmT (loAt f i.1)⟩), (5, ⟨none, nmT (hiAt f i.1)⟩)]) (fun i => m - i.1) ⟨0, by omega⟩ (weak_of ?_ ?_ rfl) (by kernel_rfl) (fun i => ?_)
  · have c1 : ((1 : Nat) : Int) = 1 := rfl
    simp -implicitDefEqProofs only [go_sem, loAt, c1]
  · simp -implicitDefEqProofs only [go_sem, loAt, hiAt]
  · obtain ⟨i, hi⟩ := i
    by_cases hA : i < m
    · have eA : decide (((i + 1 : Nat) : Int) < ((m + 1 : Nat) : Int)) = true := tD (by omega)
      have w1 : IntKind.i64.wrap (((i + 1 : Nat) : Int) + 1) = ((i + 1 + 1 : Nat) : Int) := addN1 (by omega)
      have hx := hf (i + 1) (by omega)
      have hx3 := nfl_at hx
      have y1 : (i + 1) * 3 < (m + 1) * 3 := by omega
      have y2 : (i + 1) * 3 + 3 ≤ (m + 1) * 3 := by omega
      have l1 := less_c E (hok (i + 1) (by omega)) (loAt_ok hok i (by omega)) hk
      have l2 := less_c E (hiAt_ok hok i (by omega)) (hok (i + 1) (by omega)) hk
      have s1 : loAt f (i + 1) = if nless (f (i + 1)) (loAt f i) = true then f (i + 1) else loAt f i := rfl
      have s2 : hiAt f (i + 1) = if nless (hiAt f i) (f (i + 1)) = true then f (i + 1) else hiAt f i := rfl
      obtain ⟨i', hi'⟩ : ∃ i' : {i : Nat // i ≤ m}, i'.1 = i + 1 := ⟨⟨i + 1, hA⟩, rfl⟩
      generalize nless (f (i + 1)) (loAt f i) = c1 at *
      generalize nless (hiAt f i) (f (i + 1)) = c2 at *
      simp -implicitDefEqProofs only [go_sem, hlen, div3, eA]
      refine drawn_intro (by kernel_rfl) (by kernel_rfl) (by kernel_rfl) ?_
      simp -implicitDefEqProofs only [go_sem, hlen, div3, y1, y2, hx3, nmC]
      refine Call.intro l1 ?_
      simp -implicitDefEqProofs only [go_sem]
      refine drawn_intro (by kernel_rfl) (by kernel_rfl) (by kernel_rfl) ?_
      simp -implicitDefEqProofs only [go_sem, hlen, div3, y1, y2, hx3, nmC]
      refine Call.intro l2 ?_
      cases c1 <;> cases c2
      · rw [if_neg (by decide)] at s1 s2
        simp -implicitDefEqProofs only [go_sem, w1]
        refine ⟨i', weak_of ?_ ?_ rfl, by simp only [hi']; omega⟩
        · simp -implicitDefEqProofs only [go_sem, hi']
        · simp -implicitDefEqProofs only [go_sem, hi', s1, s2]
      · rw [if_neg (by decide)] at s1
        rw [if_pos rfl] at s2
        simp -implicitDefEqProofs only [go_sem, w1, hlen, div3, y1, y2, hx3, nmC]
        refine ⟨i', weak_of ?_ ?_ rfl, by simp only [hi']; omega⟩
        · simp -implicitDefEqProofs only [go_sem, hi']
        · simp -implicitDefEqProofs only [go_sem, hi', s1, s2, hx3, nmC]
      · rw [if_neg (by decide)] at s2
        rw [if_pos rfl] at s1
        simp -implicitDefEqProofs only [go_sem, w1, hlen, div3, y1, y2, hx3, nmC]
        refine ⟨i', weak_of ?_ ?_ rfl, by simp only [hi']; omega⟩
        · simp -implicitDefEqProofs only [go_sem, hi']
        · simp -implicitDefEqProofs only [go_sem, hi', s1, s2, hx3, nmC]
      · rw [if_pos rfl] at s1 s2
        simp -implicitDefEqProofs only [go_sem, w1, hlen, div3, y1, y2, hx3, nmC]
        refine ⟨i', weak_of ?_ ?_ rfl, by simp only [hi']; omega⟩
        · simp -implicitDefEqProofs only [go_sem, hi']
        · simp -implicitDefEqProofs only [go_sem, hi', s1, s2, hx3, nmC]
    · have eA : decide (((i + 1 : Nat) : Int) < ((m + 1 : Nat) : Int)) = false := fD (by omega)
      have him : i = m := by omega
      subst him
      simp -implicitDefEqProofs only [go_sem, hlen, div3, eA]
      refine Call.intro hfin ?_
      simp -implicitDefEqProofs only [go_sem]
      refine fin_many ?_
      simp -implicitDefEqProofs only [go_sem]

/-- What meet answers. -/
def meetB (a1 a2 b1 b2 : Nm) : (Nat × Nat) × Int :=
  let lo := if nless a1 b1 = true then b1 else a1
  let hi := if nless b2 a2 = true then b2 else a2
  if nless hi lo = true then ((0, 0), 6) else ((aroundB lo hi).1, 0)
theorem meet_c (E : Nat → Option Value) {a1 a2 b1 b2 : Nm} {k : Nat} (ha1 : NOk a1 k) (ha2 : NOk a2 k) (hb1 : NOk b1 k) (hb2 : NOk b2 k) (hk : k ≤ 1000000) :
    DCall Tryz.prog E 50 [nvD a1 a2, nvD b1 b2] (.data (.tup [boxD (meetB a1 a2 b1 b2).1, intD (meetB a1 a2 b1 b2).2, tD_ noS])) := by
  refine dcall_of Tryz.func50 rfl (by kernel_rfl) Tryz.ntmps50 (by kernel_rfl) (by simp) (rs := [.cell 4 27, .tmp 5, .tmp 6]) rfl ?_
  rintro ⟨P, E, σ0, w0, base, n, kb, df⟩ rfl rfl rfl rfl
  have hM : meetB a1 a2 b1 b2 = if nless (if nless b2 a2 = true then b2 else a2) (if nless a1 b1 = true then b1 else a1) = true then ((0, 0), 6) else ((aroundB (if nless a1 b1 = true then b1 else a1) (if nless b2 a2 = true then b2 else a2)).1, 0) := rfl
  have l1 := less_c E ha1 hb1 hk
  have l2 := less_c E hb2 ha2 hk
  have key : ∀ {lo hi : Nm}, NOk lo k → NOk hi k → ∀ {M : (Nat × Nat) × Int}, (M = if nless hi lo = true then ((0, 0), 6) else ((aroundB lo hi).1, 0)) → DCall Tryz.prog E 35 [nmD hi, nmD lo] (.data (bD (nless hi lo))) ∧ DCall Tryz.prog E 48 [nmD lo, nmD hi] (.data (.tup [boxD (aroundB lo hi).1, intD (aroundB lo hi).2])) ∧ ((nless hi lo = true ∧ M = ((0, 0), 6)) ∨ (nless hi lo = false ∧ M = ((aroundB lo hi).1, 0))) := fun {lo hi} h1 h2 M e => by
    refine ⟨less_c E h2 h1 hk, around_c E h1 h2 (by omega), ?_⟩
    cases h : nless hi lo
    · exact .inr ⟨rfl, by rw [e, if_neg (by rw [h]; decide)]⟩
    · exact .inl ⟨rfl, by rw [e, if_pos h]⟩
  obtain ⟨M, hMM⟩ : ∃ M, meetB a1 a2 b1 b2 = M := ⟨_, rfl⟩
  rw [hMM] at hM ⊢
  generalize nless a1 b1 = c1 at *
  generalize nless b2 a2 = c2 at *
  simp -implicitDefEqProofs only [go_sem]
  refine Call.intro l1 ?_
  cases c1 <;> cases c2
  · rw [if_neg (show ¬ (false = true) by decide), if_neg (show ¬ (false = true) by decide)] at hM
    obtain ⟨k1, k2, k3⟩ := key ha1 ha2 hM
    simp -implicitDefEqProofs only [go_sem]
    refine Call.intro l2 ?_
    simp -implicitDefEqProofs only [go_sem]
    refine Call.intro k1 ?_
    rcases k3 with ⟨e1, e2⟩ | ⟨e1, e2⟩
    · rw [e1, e2]
      simp -implicitDefEqProofs only [go_sem]
      refine fin_many ?_
      simp -implicitDefEqProofs only [go_sem]
    · rw [e1, e2]
      simp -implicitDefEqProofs only [go_sem]
      refine Call.intro k2 ?_
      simp -implicitDefEqProofs only [go_sem]
      refine fin_many ?_
      simp -implicitDefEqProofs only [go_sem]
  · rw [if_neg (show ¬ (false = true) by decide), if_pos (rfl : true = true)] at hM
    obtain ⟨k1, k2, k3⟩ := key ha1 hb2 hM
    simp -implicitDefEqProofs only [go_sem]
    refine Call.intro l2 ?_
    simp -implicitDefEqProofs only [go_sem]
    refine Call.intro k1 ?_
    rcases k3 with ⟨e1, e2⟩ | ⟨e1, e2⟩
    · rw [e1, e2]
      simp -implicitDefEqProofs only [go_sem]
      refine fin_many ?_
      simp -implicitDefEqProofs only [go_sem]
    · rw [e1, e2]
      simp -implicitDefEqProofs only [go_sem]
      refine Call.intro k2 ?_
      simp -implicitDefEqProofs only [go_sem]
      refine fin_many ?_
      simp -implicitDefEqProofs only [go_sem]
  · rw [if_pos (rfl : true = true), if_neg (show ¬ (false = true) by decide)] at hM
    obtain ⟨k1, k2, k3⟩ := key hb1 ha2 hM
    simp -implicitDefEqProofs only [go_sem]
    refine Call.intro l2 ?_
    simp -implicitDefEqProofs only [go_sem]
    refine Call.intro k1 ?_
    rcases k3 with ⟨e1, e2⟩ | ⟨e1, e2⟩
    · rw [e1, e2]
      simp -implicitDefEqProofs only [go_sem]
      refine fin_many ?_
      simp -implicitDefEqProofs only [go_sem]
    · rw [e1, e2]
      simp -implicitDefEqProofs only [go_sem]
      refine Call.intro k2 ?_
      simp -implicitDefEqProofs only [go_sem]
      refine fin_many ?_
      simp -implicitDefEqProofs only [go_sem]
  · rw [if_pos (rfl : true = true), if_pos (rfl : true = true)] at hM
    obtain ⟨k1, k2, k3⟩ := key hb1 hb2 hM
    simp -implicitDefEqProofs only [go_sem]
    refine Call.intro l2 ?_
    simp -implicitDefEqProofs only [go_sem]
    refine Call.intro k1 ?_
    rcases k3 with ⟨e1, e2⟩ | ⟨e1, e2⟩
    · rw [e1, e2]
      simp -implicitDefEqProofs only [go_sem]
      refine fin_many ?_
      simp -implicitDefEqProofs only [go_sem]
    · rw [e1, e2]
      simp -implicitDefEqProofs only [go_sem]
      refine Call.intro k2 ?_
      simp -implicitDefEqProofs only [go_sem]
      refine fin_many ?_
      simp -implicitDefEqProofs only [go_sem]

theorem made_k (E : Nat → Option Value) {x r : Nat × Nat} {n : Int} {a b : Nm} {p1 p2 : Bool} (hm : DCall Tryz.prog E 15 [boxD x] (.data (.tup [boxD r, intD n]))) (ha : DCall Tryz.prog E 34 [.v (.int .u64 r.1)] (.data (.tup [nmD a, bD p1])))
    (hb : DCall Tryz.prog E 34 [.v (.int .u64 r.2)] (.data (.tup [nmD b, bD p2]))) : DCall Tryz.prog E 46 [boxD x] (.data (nvD a b)) := by
  refine dcall_of Tryz.func46 rfl (by kernel_rfl) Tryz.ntmps46 (by kernel_rfl) (by simp) (rs := [.cell 2 81]) rfl ?_
  rintro ⟨P, E, σ0, w0, base, n, kb, df⟩ rfl rfl rfl rfl
  simp -implicitDefEqProofs only [go_sem]
  refine Call.intro hm ?_
  simp -implicitDefEqProofs only [go_sem]
  refine Call.intro ha ?_
  simp -implicitDefEqProofs only [go_sem]
  refine Call.intro hb ?_
  simp -implicitDefEqProofs only [go_sem]
/-- The bits of a box's interval. -/
abbrev mk2 (x : Nat × Nat) : Nat × Nat := (makeB x.1 x.2).1
/-- The interval of a box: its numbers. -/
theorem made_c (E : Nat → Option Value) {x : Nat × Nat} (h1 : x.1 < 18446744073709551616) (h2 : x.2 < 18446744073709551616) (g1 : (mk2 x).1 < 18446744073709551616) (g2 : (mk2 x).2 < 18446744073709551616) :
    DCall Tryz.prog E 46 [boxD x] (.data (nvD (nplain (mk2 x).1).1 (nplain (mk2 x).2).1)) :=
  made_k E (make_c E h1 h2) (plainr_c E g1) (plainr_c E g2)
/-- The four numbers' list. -/
def four (a b c d : Nm) : Nat → Nm
  | 0 => a
  | 1 => b
  | 2 => c
  | _ => d
def spanB (a b c d : Nm) : (Nat × Nat) × Int := aroundB (loAt (four a b c d) 3) (hiAt (four a b c d) 3)
theorem span4_c (E : Nat → Option Value) {a b c d : Nm} {k : Nat} (ha : NOk a k) (hb : NOk b k) (hc : NOk c k) (hd : NOk d k) (hk : k ≤ 1000000) :
    DCall Tryz.prog E 49 [nlD [a, b, c, d]] (.data (.tup [boxD (spanB a b c d).1, intD (spanB a b c d).2])) := by
  refine span_c E (l := [a, b, c, d]) (f := four a b c d) (m := 3) (k := k) rfl (by omega) (fun i hi => ?_) hk (fun i hi => ?_)
  · have : i = 0 ∨ i = 1 ∨ i = 2 ∨ i = 3 := by omega
    rcases this with rfl | rfl | rfl | rfl <;> rfl
  · have : i = 0 ∨ i = 1 ∨ i = 2 ∨ i = 3 := by omega
    rcases this with rfl | rfl | rfl | rfl
    · exact ha
    · exact hb
    · exact hc
    · exact hd
end Go.Enc
