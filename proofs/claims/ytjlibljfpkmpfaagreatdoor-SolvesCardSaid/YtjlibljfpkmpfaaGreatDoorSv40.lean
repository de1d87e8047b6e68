/-
  Lists of boxes: made, read, looked at.
  Lists of boxes: copied, made of numbers, as intervals have them.
-/
import Derived.Test.YtjlibljfpkmpfaaGreatDoorSv39
section
set_option linter.unusedSimpArgs false
set_option maxRecDepth 100000
namespace Go.Enc
open Go.Proofs Go.Enc.Dg Go.Enc.Nu Go.Enc.Fl Go.RowKit
def nm30 (e : Int) : Nm := ⟨false, 1, e⟩
theorem val_nm30 (e : Int) : val (nm30 e) = 2 ^ e := by
  unfold val nm30
  have : ((1 : Nat) : Rat) = 1 := rfl
  simp only [Bool.false_eq_true, if_false, this]
  exact Rat.one_mul _
theorem nr_nm30 {e : Int} (h1 : -100 ≤ e) (h2 : e ≤ 100) : Nr (nm30 e) 60 100 := ⟨by show 1 < 2 ^ 60; decide, by show -((100 : Nat) : Int) ≤ e; omega, by show e ≤ ((100 : Nat) : Int); omega⟩
/-- Is a number fair? -/
def fairN (a : Nm) : Bool := (nsign a == 0) || (!nless (if nsign a < 0 then nneg a else a) (nm30 (-30)) && !nless (nm30 30) (if nsign a < 0 then nneg a else a))
theorem fairN_v (a : Nm) : fairN a = true ↔ val a = 0 ∨ ((2 : Rat) ^ (-30 : Int) ≤ am (val a) ∧ am (val a) ≤ 2 ^ (30 : Int)) := by
  have hs := val_sign a
  have hv : val (if nsign a < 0 then nneg a else a) = am (val a) := by
    unfold am
    by_cases h : nsign a < 0
    · have := hs.1.1 h
      rw [if_pos h, val_nneg, if_neg (by grind)]
    · have : ¬ val a < 0 := fun g => h (hs.1.2 g)
      rw [if_neg h, if_pos (by grind)]
  unfold fairN
  rw [nless_iff, nless_iff, hv, val_nm30, val_nm30]
  simp only [Bool.or_eq_true, Bool.and_eq_true, beq_iff_eq, Bool.not_eq_true', decide_eq_false_iff_not, Rat.not_lt]
  rw [hs.2.1]
theorem rfair_c (E : Nat → Option Value) {a : Nm} (ha : Nr a 60 1000) : DCall Tryz.prog E 138 [nmD a] (.data (bD (fairN a))) := by
  obtain ⟨a', ha'⟩ : ∃ a', (if nsign a < 0 then nneg a else a) = a' := ⟨_, rfl⟩
  have hf : fairN a = ((nsign a == 0) || (!nless a' (nm30 (-30)) && !nless (nm30 30) a')) := by unfold fairN; rw [ha']
  have o1 : NOk a' 60 := by
    rw [← ha']
    split
    · exact ha.neg.ok (by omega)
    · exact ha.ok (by omega)
  have o2 := (nr_nm30 (e := -30) (by omega) (by omega)).ok (by omega)
  have o3 := (nr_nm30 (e := 30) (by omega) (by omega)).ok (by omega)
  have l1 := less_c E o1 o2 (by omega)
  have l2 := less_c E o3 o1 (by omega)
  have hn := negated_c E a
  have hs := sign_c E a
  have c1 := nat_c E 1 (by decide)
  have n1 : nmD (nm30 (-30)) = .agg [bD false, natD 1, intD (-30)] := rfl
  have n2 : nmD (nm30 30) = .agg [bD false, natD 1, intD 30] := rfl
  rw [n1] at l1
  rw [n2] at l2
  rw [hf]
  generalize nless a' (nm30 (-30)) = b1 at *
  generalize nless (nm30 30) a' = b2 at *
  refine dcall_of Tryz.func138 rfl (by kernel_rfl) Tryz.ntmps138 (by kernel_rfl) (by simp) (rs := [.tmp 2]) rfl ?_
  rintro ⟨P, E, σ0, w0, base, n, kb, df, G0⟩ rfl rfl rfl rfl
  simp -implicitDefEqProofs only [go_sem]
  refine Call.intro hs ?_
  have tail : ∀ b1 b2 : Bool, ∀ s : Int, (s == 0 || (!b1 && !b2)) = (if s = 0 then true else if b1 = true then false else !b2) := fun b1 b2 s => by
    by_cases h : s = 0
    · rw [if_pos h, h]; rfl
    · have : (s == 0) = false := by simp [h]
      rw [if_neg h, this]
      cases b1 <;> rfl
  rw [tail]
  by_cases h : nsign a < 0
  · have e1 := tB (tD h)
    rw [if_pos h] at ha'
    subst ha'
    have e0 := tV (show (nsign a == 0) = false by simp; omega)
    rw [if_neg (by omega)]
    simp -implicitDefEqProofs only [go_sem, e1]
    refine Call.intro hn ?_
    simp -implicitDefEqProofs only [go_sem]
    refine drawn_intro (by kernel_rfl) (by kernel_rfl) (by kernel_rfl) ?_
    simp -implicitDefEqProofs only [go_sem]
    refine Call.intro c1 ?_
    simp -implicitDefEqProofs only [go_sem]
    refine Call.intro l1 ?_
    simp -implicitDefEqProofs only [go_sem]
    refine drawn_intro (by kernel_rfl) (by kernel_rfl) (by kernel_rfl) ?_
    simp -implicitDefEqProofs only [go_sem]
    refine Call.intro c1 ?_
    simp -implicitDefEqProofs only [go_sem]
    refine Call.intro l2 ?_
    cases b1 <;> cases b2 <;> simp -implicitDefEqProofs only [go_sem, e0, finK]
  · have e1 := tV (fD h)
    rw [if_neg h] at ha'
    subst ha'
    simp -implicitDefEqProofs only [go_sem, e1]
    refine drawn_intro (by kernel_rfl) (by kernel_rfl) (by kernel_rfl) ?_
    simp -implicitDefEqProofs only [go_sem]
    refine Call.intro c1 ?_
    simp -implicitDefEqProofs only [go_sem]
    refine Call.intro l1 ?_
    simp -implicitDefEqProofs only [go_sem]
    refine drawn_intro (by kernel_rfl) (by kernel_rfl) (by kernel_rfl) ?_
    simp -implicitDefEqProofs only [go_sem]
    refine Call.intro c1 ?_
    simp -implicitDefEqProofs only [go_sem]
    refine Call.intro l2 ?_
    by_cases h0 : nsign a = 0
    · have e0 := tB (show (nsign a == 0) = true by simp [h0])
      rw [if_pos h0]
      simp -implicitDefEqProofs only [go_sem, e0, finK]
    · have e0 := tV (show (nsign a == 0) = false by simp [h0])
      rw [if_neg h0]
      cases b1 <;> cases b2 <;> simp -implicitDefEqProofs only [go_sem, e0, finK]
/-- The numbers of a box. -/
abbrev loN (X : Nat × Nat) : Nm := (nplain (mk2 X).1).1
abbrev hiN (X : Nat × Nat) : Nm := (nplain (mk2 X).2).1
theorem nplain_nr (b : Nat) : Nr (nplain b).1 60 1000 := by
  by_cases h : (nplain b).1 = nzero
  · rw [h]; exact nr_zero _ _
  · obtain ⟨_, e, h1, h2, _⟩ := nplain_ok h
    rw [e]
    exact ⟨by show _ + _ < 2 ^ 60; have := Nat.mod_lt b (show 0 < 4503599627370496 by decide); omega, by show -((1000 : Nat) : Int) ≤ ((b / 4503599627370496 % 2048 : Nat) : Int) - 1075; omega, by show ((b / 4503599627370496 % 2048 : Nat) : Int) - 1075 ≤ ((1000 : Nat) : Int); omega⟩
/-- Boxes of 64 bits an end. -/
def Bits (L : List (Nat × Nat)) : Prop := ∀ X ∈ L, X.1 < 18446744073709551616 ∧ X.2 < 18446744073709551616
theorem made_b (E : Nat → Option Value) {X : Nat × Nat} (h : X.1 < 18446744073709551616 ∧ X.2 < 18446744073709551616) : DCall Tryz.prog E 46 [boxD X] (.data (nvD (loN X) (hiN X))) := by
  have g := mk2_gd h.1 h.2
  exact made_c E h.1 h.2 g.l1 g.l2
def fairX (X : Nat × Nat) : Bool := fairN (loN X) && fairN (hiN X)
def rangB (L : List (Nat × Nat)) : Bool := L.all fairX
theorem ranged_c (E : Nat → Option Value) {L : List (Nat × Nat)} (hL : L.length * 16 ≤ 140737488355328) (hb : Bits L) : DCall Tryz.prog E 109 [.sl 2 (boxC L)] (.data (bD (rangB L))) := by
  refine dcall_of Tryz.func109 rfl (by kernel_rfl) Tryz.ntmps109 (by kernel_rfl) (by simp) (rs := [.tmp 2]) rfl ?_
  rintro ⟨P, E, σ0, w0, base, n, kb, df, G0⟩ rfl rfl rfl rfl
  have cl := boxC_lq L
  have d2 := div_two
  simp -implicitDefEqProofs only [go_sem]
  rw [stop_eq]
  refine dwp_loop (α := {i : Nat // i ≤ L.length ∧ ∀ j X, j < i → L[j]? = some X → fairX X = true}) (fun i => St.of [(0, .d (.sl 2 (boxC L))), (3, .d (intD i.1))] []) (fun i => L.length - i.1)
    ⟨0, Nat.zero_le _, fun j X h => by omega⟩ (weak_of ?_ ?_ rfl) (by kernel_rfl) (fun i => ?_)
  · have c0 : ((0 : Nat) : Int) = 0 := rfl
    simp -implicitDefEqProofs only [go_sem, c0]
  · simp -implicitDefEqProofs only [go_sem]
  obtain ⟨i, hi, hf⟩ := i
  by_cases hA : i < L.length
  · have eA : decide ((i : Int) < (L.length : Int)) = true := tD (by omega)
    have w1 : IntKind.i64.wrap ((i : Int) + 1) = ((i + 1 : Nat) : Int) := addN1 (by omega)
    obtain ⟨X, hX⟩ : ∃ X, L[i]? = some X := ⟨_, List.getElem?_eq_getElem hA⟩
    have hXm := List.mem_of_getElem? hX
    have tk := boxC_tq hX
    have q1 : i * 2 < L.length * 2 := by omega
    have q2 : i * 2 + 2 ≤ L.length * 2 := by omega
    have n1 := nplain_nr (mk2 X).1
    have n2 := nplain_nr (mk2 X).2
    simp -implicitDefEqProofs only [go_sem, eA, cl, d2, q1, q2, tk]
    refine Call.intro (made_b _ (hb X hXm)) ?_
    simp -implicitDefEqProofs only [go_sem]
    refine Call.intro (rfair_c _ n1) ?_
    simp -implicitDefEqProofs only [go_sem]
    refine Call.intro (rfair_c _ n2) ?_
    by_cases hx : fairX X = true
    · have hx2 : fairN (loN X) = true ∧ fairN (hiN X) = true := by unfold fairX at hx; rwa [Bool.and_eq_true] at hx
      have e1 := tV hx2.1
      have e2 := tV hx2.2
      obtain ⟨i', hi'⟩ : ∃ i' : {i : Nat // i ≤ L.length ∧ ∀ j X, j < i → L[j]? = some X → fairX X = true}, i'.1 = i + 1 := ⟨⟨i + 1, hA, fun j Y hj hY => by
        rcases Nat.lt_or_ge j i with g | g
        · exact hf j Y g hY
        · obtain rfl : j = i := by omega
          rw [hX] at hY
          cases hY
          exact hx⟩, rfl⟩
      simp -implicitDefEqProofs only [go_sem, e1, e2, w1]
      refine ⟨i', weak_of ?_ ?_ rfl, by simp only [hi']; omega⟩
      · simp -implicitDefEqProofs only [go_sem, hi']
      · simp -implicitDefEqProofs only [go_sem]
    · have hr : rangB L = false := by
        unfold rangB
        rw [List.all_eq_false]
        exact ⟨X, hXm, hx⟩
      have hx2 : (fairN (loN X) && fairN (hiN X)) = false := by
        have : fairX X = false := by cases h : fairX X; rfl; exact absurd h hx
        exact this
      rw [hr]
      cases e1 : fairN (loN X)
      · simp -implicitDefEqProofs only [go_sem, e1, finK]
      · rw [e1, Bool.true_and] at hx2
        simp -implicitDefEqProofs only [go_sem, e1, hx2, finK]
  · have eA : decide ((i : Int) < (L.length : Int)) = false := fD (by omega)
    have hr : rangB L = true := by
      unfold rangB
      rw [List.all_eq_true]
      intro X hX
      obtain ⟨j, hj, e⟩ := List.mem_iff_getElem.1 hX
      exact hf j X (by omega) (by rw [List.getElem?_eq_getElem hj, e])
    rw [hr]
    simp -implicitDefEqProofs only [go_sem, eA, cl, d2, finK]
end Go.Enc
end
section
set_option linter.unusedSimpArgs false
set_option maxRecDepth 100000
namespace Go.Enc
open Go.Proofs Go.Enc.Dg Go.Enc.Nu Go.Enc.Fl Go.RowKit
theorem btake_snoc {L : List (Nat × Nat)} {i : Nat} {X : Nat × Nat} (h : L[i]? = some X) : L.take i ++ [X] = L.take (i + 1) := by
  rw [List.take_add_one, h]
  rfl
theorem boxT_len2 (L : List (Nat × Nat)) : (boxT L).length = L.length * 2 := by rw [boxT_len]; omega
/-- As intervals have them. -/
def normL (L : List (Nat × Nat)) : List (Nat × Nat) := L.map mk2
theorem normal_c (E : Nat → Option Value) {L : List (Nat × Nat)} (hL : L.length * 16 ≤ 140737488355328) (hb : Bits L) : DCall Tryz.prog E 110 [.sl 2 (boxC L)] (.data (.sl 2 (boxC (normL L)))) := by
  refine dcall_of Tryz.func110 rfl (by kernel_rfl) Tryz.ntmps110 (by kernel_rfl) (by simp) (rs := [.tmp 2]) rfl ?_
  rintro ⟨P, E, σ0, w0, base, n, kb, df, G0⟩ rfl rfl rfl rfl
  have cl := boxC_lq L
  have d2 := div_two
  have hmax : maxLen = 9223372036854775807 := by decide
  simp -implicitDefEqProofs only [go_sem]
  rw [stop_eq]
  refine dwp_nil 3 24 27 2 rfl rfl ?_
  refine dwp_loop (α := {i : Nat // i ≤ L.length}) (fun i => St.of [(0, .d (.sl 2 (boxC L))), (3, .gs 24), (4, .d (intD i.1))] [(24, ⟨some (27, 2, true), boxT ((normL L).take i.1)⟩)]) (fun i => L.length - i.1)
    ⟨0, Nat.zero_le _⟩ (weak_of ?_ ?_ rfl) (by kernel_rfl) (fun i => ?_)
  · have c0 : ((0 : Nat) : Int) = 0 := rfl
    simp -implicitDefEqProofs only [go_sem, c0, upd]
  · simp -implicitDefEqProofs only [go_sem, upd]
    rfl
  obtain ⟨i, hi⟩ := i
  have nl : (normL L).length = L.length := by unfold normL; rw [List.length_map]
  by_cases hA : i < L.length
  · have eA : decide ((i : Int) < (L.length : Int)) = true := tD (by omega)
    have w1 : IntKind.i64.wrap ((i : Int) + 1) = ((i + 1 : Nat) : Int) := addN1 (by omega)
    obtain ⟨X, hX⟩ : ∃ X, L[i]? = some X := ⟨_, List.getElem?_eq_getElem hA⟩
    have hXm := List.mem_of_getElem? hX
    have tk := boxC_tq hX
    have q1 : i * 2 < L.length * 2 := by omega
    have q2 : i * 2 + 2 ≤ L.length * 2 := by omega
    have bl : (boxT ((normL L).take i)).length = i * 2 := by rw [boxT_len2, List.length_take, nl]; omega
    have a1 : (i * 2 + 2) / 2 = i + 1 := by omega
    have hn : (normL L)[i]? = some (mk2 X) := by unfold normL; rw [List.getElem?_map, hX]; rfl
    have bs := btake_snoc hn
    have h := hb X hXm
    obtain ⟨i', hi'⟩ : ∃ i' : {i : Nat // i ≤ L.length}, i'.1 = i + 1 := ⟨⟨i + 1, hA⟩, rfl⟩
    have hm := make_c E h.1 h.2
    generalize (makeB X.1 X.2).2 = e at hm
    have hm : DCall Tryz.prog E 15 [boxD X] (.data (.tup [boxD (mk2 X), intD e])) := hm
    generalize mk2 X = Y at *
    simp -implicitDefEqProofs only [go_sem, eA, cl, d2, q1, q2, tk]
    refine Call.intro hm ?_
    simp -implicitDefEqProofs only [go_sem, bl, a1, boxkill_snoc, boxT_kill, bs, w1]
    refine ⟨by omega, by omega, i', weak_of ?_ ?_ (by simp [refsOk, boxT_refs, refIn, T.ref]), by simp only [hi']; omega⟩
    · simp -implicitDefEqProofs only [go_sem, hi']
    · simp -implicitDefEqProofs only [go_sem, hi', boxkill_snoc, boxT_kill, bs]
  · have eA : decide ((i : Int) < (L.length : Int)) = false := fD (by omega)
    have ht : (normL L).take i = normL L := List.take_of_length_le (by omega)
    simp -implicitDefEqProofs only [go_sem, eA, cl, d2, ht, asDs_boxT, finK]
theorem given_c (E : Nat → Option Value) {L : List (Nat × Nat)} (hL : L.length * 16 ≤ 140737488355328) : DCall Tryz.prog E 73 [.sl 2 (boxC L)] (.data (.sl 2 (boxC L))) := by
  refine dcall_of Tryz.func73 rfl (by kernel_rfl) Tryz.ntmps73 (by kernel_rfl) (by simp) (rs := [.tmp 2]) rfl ?_
  rintro ⟨P, E, σ0, w0, base, n, kb, df, G0⟩ rfl rfl rfl rfl
  have cl := boxC_lq L
  have d2 := div_two
  have hmax : maxLen = 9223372036854775807 := by decide
  simp -implicitDefEqProofs only [go_sem]
  rw [stop_eq]
  refine dwp_nil 3 18 32 2 rfl rfl ?_
  refine dwp_loop (α := {i : Nat // i ≤ L.length}) (fun i => St.of [(0, .d (.sl 2 (boxC L))), (3, .gs 18), (4, .d (intD i.1))] [(18, ⟨some (32, 2, true), boxT (L.take i.1)⟩)]) (fun i => L.length - i.1)
    ⟨0, Nat.zero_le _⟩ (weak_of ?_ ?_ rfl) (by kernel_rfl) (fun i => ?_)
  · have c0 : ((0 : Nat) : Int) = 0 := rfl
    simp -implicitDefEqProofs only [go_sem, c0, upd]
  · simp -implicitDefEqProofs only [go_sem, upd]
    rfl
  obtain ⟨i, hi⟩ := i
  by_cases hA : i < L.length
  · have eA : decide ((i : Int) < (L.length : Int)) = true := tD (by omega)
    have w1 : IntKind.i64.wrap ((i : Int) + 1) = ((i + 1 : Nat) : Int) := addN1 (by omega)
    obtain ⟨X, hX⟩ : ∃ X, L[i]? = some X := ⟨_, List.getElem?_eq_getElem hA⟩
    have tk := boxC_tq hX
    have q1 : i * 2 < L.length * 2 := by omega
    have q2 : i * 2 + 2 ≤ L.length * 2 := by omega
    have bl : (boxT (L.take i)).length = i * 2 := by rw [boxT_len2, List.length_take]; omega
    have a1 : (i * 2 + 2) / 2 = i + 1 := by omega
    have bs := btake_snoc hX
    obtain ⟨i', hi'⟩ : ∃ i' : {i : Nat // i ≤ L.length}, i'.1 = i + 1 := ⟨⟨i + 1, hA⟩, rfl⟩
    simp -implicitDefEqProofs only [go_sem, eA, cl, d2, q1, q2, tk]
    refine Call.intro (lbox_c _ X) ?_
    simp -implicitDefEqProofs only [go_sem, bl, a1, boxkill_snoc, boxT_kill, bs, w1]
    refine ⟨by omega, by omega, i', weak_of ?_ ?_ (by simp [refsOk, boxT_refs, refIn, T.ref]), by simp only [hi']; omega⟩
    · simp -implicitDefEqProofs only [go_sem, hi']
    · simp -implicitDefEqProofs only [go_sem, hi', boxkill_snoc, boxT_kill, bs]
  · have eA : decide ((i : Int) < (L.length : Int)) = false := fD (by omega)
    have ht : L.take i = L := List.take_of_length_le (by omega)
    simp -implicitDefEqProofs only [go_sem, eA, cl, d2, ht, asDs_boxT, finK]
theorem taken_c (E : Nat → Option Value) {L : List (Nat × Nat)} (hL : L.length * 16 ≤ 140737488355328) : DCall Tryz.prog E 74 [.sl 2 (boxC L)] (.data (.sl 2 (boxC L))) := by
  refine dcall_of Tryz.func74 rfl (by kernel_rfl) Tryz.ntmps74 (by kernel_rfl) (by simp) (rs := [.tmp 2]) rfl ?_
  rintro ⟨P, E, σ0, w0, base, n, kb, df, G0⟩ rfl rfl rfl rfl
  have cl := boxC_lq L
  have d2 := div_two
  have hmax : maxLen = 9223372036854775807 := by decide
  simp -implicitDefEqProofs only [go_sem]
  rw [stop_eq]
  refine dwp_nil 3 24 27 2 rfl rfl ?_
  refine dwp_loop (α := {i : Nat // i ≤ L.length}) (fun i => St.of [(0, .d (.sl 2 (boxC L))), (3, .gs 24), (4, .d (intD i.1))] [(24, ⟨some (27, 2, true), boxT (L.take i.1)⟩)]) (fun i => L.length - i.1)
    ⟨0, Nat.zero_le _⟩ (weak_of ?_ ?_ rfl) (by kernel_rfl) (fun i => ?_)
  · have c0 : ((0 : Nat) : Int) = 0 := rfl
    simp -implicitDefEqProofs only [go_sem, c0, upd]
  · simp -implicitDefEqProofs only [go_sem, upd]
    rfl
  obtain ⟨i, hi⟩ := i
  by_cases hA : i < L.length
  · have eA : decide ((i : Int) < (L.length : Int)) = true := tD (by omega)
    have w1 : IntKind.i64.wrap ((i : Int) + 1) = ((i + 1 : Nat) : Int) := addN1 (by omega)
    obtain ⟨X, hX⟩ : ∃ X, L[i]? = some X := ⟨_, List.getElem?_eq_getElem hA⟩
    have tk := boxC_tq hX
    obtain ⟨g1, g2⟩ := boxC_get hX
    have q1 : i * 2 < L.length * 2 := by omega
    have q2 : i * 2 + 2 ≤ L.length * 2 := by omega
    have q3 : i * 2 + 1 < L.length * 2 := by omega
    have bl : (boxT (L.take i)).length = i * 2 := by rw [boxT_len2, List.length_take]; omega
    have a1 : (i * 2 + 2) / 2 = i + 1 := by omega
    have bs := btake_snoc hX
    obtain ⟨i', hi'⟩ : ∃ i' : {i : Nat // i ≤ L.length}, i'.1 = i + 1 := ⟨⟨i + 1, hA⟩, rfl⟩
    simp -implicitDefEqProofs only [go_sem, eA, cl, d2]
    refine drawn_intro (by kernel_rfl) (by kernel_rfl) (by kernel_rfl) ?_
    simp -implicitDefEqProofs only [go_sem, cl, d2, q1, q2, q3, tk, g1, g2, bl, a1, boxkill_snoc, boxT_kill, bs, w1]
    refine ⟨by omega, by omega, i', weak_of ?_ ?_ (by simp [refsOk, boxT_refs, refIn, T.ref]), by simp only [hi']; omega⟩
    · simp -implicitDefEqProofs only [go_sem, hi']
    · simp -implicitDefEqProofs only [go_sem, hi', boxkill_snoc, boxT_kill, bs]
  · have eA : decide ((i : Int) < (L.length : Int)) = false := fD (by omega)
    have ht : L.take i = L := List.take_of_length_le (by omega)
    simp -implicitDefEqProofs only [go_sem, eA, cl, d2, ht, asDs_boxT, finK]
theorem taken_nil (E : Nat → Option Value) : DCall Tryz.prog E 74 [.v (.slice none 0 0)] (.data (.v (.slice none 0 0))) := by
  refine dcall_of Tryz.func74 rfl (by kernel_rfl) Tryz.ntmps74 (by kernel_rfl) (by simp) (rs := [.tmp 2]) rfl ?_
  rintro ⟨P, E, σ0, w0, base, n, kb, df, G0⟩ rfl rfl rfl rfl
  have eA : decide ((0 : Int) < 0) = false := by decide
  simp -implicitDefEqProofs only [go_sem]
  rw [stop_eq]
  refine dwp_loop (α := Unit) (fun _ => St.of [(0, .d (.v (.slice none 0 0))), (3, .d (.v (.slice none 0 0))), (4, .d (intD 0))] []) (fun _ => 0) () (weak_of ?_ ?_ rfl) (by kernel_rfl) (fun _ => ?_)
  · simp -implicitDefEqProofs only [go_sem]
  · simp -implicitDefEqProofs only [go_sem]
  simp -implicitDefEqProofs only [go_sem, eA, finK]
/-- Numbers, two by two. -/
def boxL (p : List Nat) : List (Nat × Nat) := (List.range (p.length / 2)).map fun i => (p.getD (i * 2) 0, p.getD (i * 2 + 1) 0)
theorem boxL_len (p : List Nat) : (boxL p).length = p.length / 2 := by simp [boxL]
theorem boxL_get {p : List Nat} {i : Nat} (h : i < p.length / 2) : (boxL p)[i]? = some (p.getD (i * 2) 0, p.getD (i * 2 + 1) 0) := by simp [boxL, h]
theorem boxed_c (E : Nat → Option Value) {p : List Nat} (hp : p.length * 8 ≤ 140737488355328) : DCall Tryz.prog E 71 [usD p] (.data (.sl 2 (boxC (boxL p)))) := by
  refine dcall_of Tryz.func71 rfl (by kernel_rfl) Tryz.ntmps71 (by kernel_rfl) (by simp) (rs := [.tmp 2]) rfl ?_
  rintro ⟨P, E, σ0, w0, base, n, kb, df, G0⟩ rfl rfl rfl rfl
  have hml : (p.map uD).length = p.length := List.length_map _
  have hmax : maxLen = 9223372036854775807 := by decide
  simp -implicitDefEqProofs only [go_sem]
  rw [stop_eq]
  refine dwp_nil 3 24 27 2 rfl rfl ?_
  refine dwp_loop (α := {i : Nat // i ≤ p.length / 2}) (fun i => St.of [(0, .d (usD p)), (3, .gs 24), (4, .d (intD ((i.1 * 2 : Nat) : Int)))] [(24, ⟨some (27, 2, true), boxT ((boxL p).take i.1)⟩)]) (fun i => p.length / 2 - i.1)
    ⟨0, Nat.zero_le _⟩ (weak_of ?_ ?_ rfl) (by kernel_rfl) (fun i => ?_)
  · have c0 : ((0 * 2 : Nat) : Int) = 0 := rfl
    simp -implicitDefEqProofs only [go_sem, c0, upd]
  · simp -implicitDefEqProofs only [go_sem, upd]
    rfl
  obtain ⟨i, hi⟩ := i
  have w0 : IntKind.i64.wrap (((i * 2 : Nat) : Int) + 1) = ((i * 2 + 1 : Nat) : Int) := addN1 (by omega)
  have bll := boxL_len p
  by_cases hA : i < p.length / 2
  · have eA : decide (((i * 2 + 1 : Nat) : Int) < (p.length : Int)) = true := tD (by omega)
    have w1 : IntKind.i64.wrap (((i * 2 : Nat) : Int) + 2) = (((i + 1) * 2 : Nat) : Int) := by rw [w64 (by omega)]; omega
    have q1 : i * 2 < p.length := by omega
    have q2 : i * 2 + 1 < p.length := by omega
    have g1 : (p.map uD)[i * 2]? = some (uD (p.getD (i * 2) 0)) := by rw [List.getElem?_map, List.getD_eq_getElem?_getD, List.getElem?_eq_getElem q1]; rfl
    have g2 : (p.map uD)[i * 2 + 1]? = some (uD (p.getD (i * 2 + 1) 0)) := by rw [List.getElem?_map, List.getD_eq_getElem?_getD, List.getElem?_eq_getElem q2]; rfl
    have bl : (boxT ((boxL p).take i)).length = i * 2 := by rw [boxT_len2, List.length_take, bll]; omega
    have a1 : (i * 2 + 2) / 2 = i + 1 := by omega
    have bs := btake_snoc (boxL_get hA)
    have bk : List.map (killT 24) (boxT ((boxL p).take i) ++ [T.d (D.v (Value.int IntKind.u64 (p.getD (i * 2) 0))), T.d (D.v (Value.int IntKind.u64 (p.getD (i * 2 + 1) 0)))]) = boxT ((boxL p).take (i + 1)) := by
      rw [← bs]
      exact boxkill_snoc 24 ((boxL p).take i) (p.getD (i * 2) 0, p.getD (i * 2 + 1) 0)
    obtain ⟨i', hi'⟩ : ∃ i' : {i : Nat // i ≤ p.length / 2}, i'.1 = i + 1 := ⟨⟨i + 1, hA⟩, rfl⟩
    simp -implicitDefEqProofs only [go_sem, hml, div1, w0, eA]
    refine drawn_intro (by kernel_rfl) (by kernel_rfl) (by kernel_rfl) ?_
    simp -implicitDefEqProofs only [go_sem, hml, div1, w0, q1, q2, g1, g2, uD, bl, a1, w1, boxkill_snoc, boxT_kill, bs]
    refine ⟨by omega, by omega, i', weak_of ?_ ?_ (by simp [refsOk, boxT_refs, refIn, T.ref]), by simp only [hi']; omega⟩
    · simp -implicitDefEqProofs only [go_sem, hi']
    · simp -implicitDefEqProofs only [go_sem, hi', bk]
  · have eA : decide (((i * 2 + 1 : Nat) : Int) < (p.length : Int)) = false := fD (by omega)
    have ht : (boxL p).take i = boxL p := List.take_of_length_le (by omega)
    simp -implicitDefEqProofs only [go_sem, hml, div1, w0, eA, ht, asDs_boxT, finK]
end Go.Enc
end
