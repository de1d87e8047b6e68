/-
  Mul and Add of intervals hand back what the document says, and its error; a polynomial's steps.
  Eval by contract: may these be a polynomial's numbers; the walk down the numbers.
  Eval by contract, both sides.
-/
import Derived.Test.YtjlibljfpkmpfaaGreatDoorOt
import Derived.Test.YtjlibljfpkmpfaaGreatDoorRi
section
set_option linter.unusedSimpArgs false
set_option maxRecDepth 100000
namespace Go.Enc
open Go.Proofs Go.Enc.Dg Go.Enc.Nu Go.Enc.Fl

/-- An error of an operation by its number and name. -/
def errD (q : Nat → Addr) (n : Int) (s : ByteArray) : D := if n = 0 then .v .nilIface else opE s (eD q (n - 1).toNat)
section
variable {E : Nat → Option Value} {q : Nat → Addr} {a b : Nat × Nat}
theorem code_err (hq : Sent E q) {n : Int} {s : ByteArray} (h : n = 0 ∧ s = noS ∨ (1 ≤ n ∧ n ≤ 9)) : DCall Tryz.prog E 32 [errD q n s] (.data (.tup [intD n, strD s])) := by
  rcases h with ⟨rfl, rfl⟩ | h
  · exact code_nil E
  · unfold errD
    rw [if_neg (by omega)]
    have := code_op hq (i := (n - 1).toNat) (by omega) s
    rwa [show (((n - 1).toNat : Nat) : Int) + 1 = n by omega] at this
/-- A result is an interval, or an error. -/
def Res1 (R : Ans) : Prop := (R.2.1 = 0 ∧ R.2.2 = noS ∧ Gd R.1) ∨ (1 ≤ R.2.1 ∧ R.2.1 ≤ 9 ∧ R.1 = (0, 0))
theorem gd_of {l h : Nat} {lo hi : Nm} (ll : l < 18446744073709551616) (lh : h < 18446744073709551616) (d : DnK (val lo) (K (idx l))) (u : UpK (val hi) (K (idx h))) (hle : val lo ≤ val hi) (pl : plainB l = true) (ph : plainB h = true) : Gd (posB l, posB h) := by
  have o1 := (plain_iff ll).1 pl
  have o2 := (plain_iff lh).1 ph
  rw [(K_ok (idx l)).2 o1] at d
  rw [(K_ok (idx h)).2 o2] at u
  have h1 := (d.val o1).1
  have h2 := (UpK.val u o2).2
  exact ⟨posB_lt ll, posB_lt lh, posB_plain pl, posB_plain ph, by simp only [posB_idx]; exact v_le_iff.1 (Rat.le_trans h1 (Rat.le_trans hle h2)), posB_pos _, posB_pos _⟩
theorem ends_det (nm : ByteArray) {l h : Nat} {lo hi : Nm} (ll : l < 18446744073709551616) (lh : h < 18446744073709551616) (d : DnK (val lo) (K (idx l))) (u : UpK (val hi) (K (idx h))) (hle : val lo ≤ val hi) {R : Ans} (hR : R = namedB (aroundB lo hi).1 (aroundB lo hi).2 nm) :
    endsP q nm l h = .tup [ivD R.1, errD q R.2.1 R.2.2] ∧ Res1 R := by
  have hA := around_of ll lh d u
  unfold endsP
  by_cases g : plainB l = true ∧ plainB h = true
  · rw [if_pos g] at hA
    rw [hA] at hR
    have hR : R = ((posB l, posB h), 0, noS) := hR
    subst hR
    rw [if_neg (by rw [g.1, g.2]; simp)]
    exact ⟨rfl, .inl ⟨rfl, rfl, gd_of ll lh d u hle g.1 g.2⟩⟩
  · rw [if_neg g] at hA
    rw [hA] at hR
    have hR : R = ((0, 0), 3, nm) := hR
    subst hR
    rw [if_pos (by cases hl : plainB l; exact .inl rfl; cases hh : plainB h; exact .inr rfl; exact absurd ⟨hl, hh⟩ g)]
    exact ⟨rfl, .inr ⟨show (1 : Int) ≤ 3 by decide, show (3 : Int) ≤ 9 by decide, rfl⟩⟩
/-- The document's product and sum of two intervals. -/
def mulB (a b : Nat × Nat) : Ans := refB 5 (nm a.1) (nm a.2) (nm b.1) (nm b.2)
def addB (a b : Nat × Nat) : Ans := refB 3 (nm a.1) (nm a.2) (nm b.1) (nm b.2)
theorem add_det (hq : Sent E q) (g : Gd a) (g' : Gd b) : DCall Tryz.prog E 41 [ivD a, ivD b] (.data (.tup [ivD (addB a b).1, errD q (addB a b).2.1 (addB a b).2.2])) ∧ Res1 (addB a b) := by
  obtain ⟨l, _, l1, _, ll, _, ld, _⟩ := add_c E g.o1 g'.o1
  obtain ⟨_, h, _, h2, _, lh, _, hu⟩ := add_c E g.o2 g'.o2
  have m1 := (((mu_v (idx a.1)).add (mu_v (idx b.1))).class).1
  have m2 := (((mu_v (idx a.2)).add (mu_v (idx b.2))).class).2
  have vl : val (nsum (nm a.1) (nm b.1)) = v (idx a.1) + v (idx b.1) := by rw [val_nsum, nval g.l1 g.p1, nval g'.l1 g'.p1]
  have vh : val (nsum (nm a.2) (nm b.2)) = v (idx a.2) + v (idx b.2) := by rw [val_nsum, nval g.l2 g.p2, nval g'.l2 g'.p2]
  have hle : val (nsum (nm a.1) (nm b.1)) ≤ val (nsum (nm a.2) (nm b.2)) := by
    rw [vl, vh]
    have := v_le g.le
    have := v_le g'.le
    grind
  obtain ⟨k1, k2⟩ := ends_det (q := q) plusS ll lh (lo := nsum (nm a.1) (nm b.1)) (hi := nsum (nm a.2) (nm b.2)) (by rw [vl]; exact dnk_of ld m1) (by rw [vh]; exact upk_of hu m2) hle (R := addB a b) rfl
  have he := ends_c hq plusS ll lh
  rw [k1] at he
  exact ⟨iadd_k E l1 h2 he, k2⟩
theorem mul_det (hq : Sent E q) (g : Gd a) (g' : Gd b) : DCall Tryz.prog E 43 [ivD a, ivD b] (.data (.tup [ivD (mulB a b).1, errD q (mulB a b).2.1 (mulB a b).2.2])) ∧ Res1 (mulB a b) := by
  have hc : ∀ n, n < 4 → ∃ l h, Corner E 88 timesS (two a.1 a.2 (n / 2)) (two b.1 b.2 (n % 2)) l h ∧ DnK (val (four (nprod (nm a.1) (nm b.1)) (nprod (nm a.1) (nm b.2)) (nprod (nm a.2) (nm b.1)) (nprod (nm a.2) (nm b.2)) n)) (K (idx l)) ∧
      UpK (val (four (nprod (nm a.1) (nm b.1)) (nprod (nm a.1) (nm b.2)) (nprod (nm a.2) (nm b.1)) (nprod (nm a.2) (nm b.2)) n)) (K (idx h)) := fun n hn => by
    have key : ∀ {a1 b1 : Nat}, OkB a1 → OkB b1 → plainB a1 = true → plainB b1 = true → ∃ l h, Corner E 88 timesS a1 b1 l h ∧ DnK (val (nprod (nm a1) (nm b1))) (K (idx l)) ∧ UpK (val (nprod (nm a1) (nm b1))) (K (idx h)) := fun {a1 b1} o1 o2 p1 p2 => by
      rw [val_nprod, nval o1.1 p1, nval o2.1 p2]
      exact mul_cor E o1 o2
    rcases four4 (show n ≤ 3 by omega) with rfl | rfl | rfl | rfl
    · exact key g.o1 g'.o1 g.p1 g'.p1
    · exact key g.o1 g'.o2 g.p1 g'.p2
    · exact key g.o2 g'.o1 g.p2 g'.p1
    · exact key g.o2 g'.o2 g.p2 g'.p2
  obtain ⟨l, h, c1, ll, lh, d, u⟩ := corners_class hq (by decide) timesS hc
  have hle := Rat.le_trans ((lo_val (four (nprod (nm a.1) (nm b.1)) (nprod (nm a.1) (nm b.2)) (nprod (nm a.2) (nm b.1)) (nprod (nm a.2) (nm b.2))) 3).1 0 (by omega)) ((hi_val (four (nprod (nm a.1) (nm b.1)) (nprod (nm a.1) (nm b.2)) (nprod (nm a.2) (nm b.1)) (nprod (nm a.2) (nm b.2))) 3).1 0 (by omega))
  obtain ⟨k1, k2⟩ := ends_det (q := q) timesS ll lh d u hle (R := mulB a b) rfl
  rw [k1] at c1
  exact ⟨imul_k E c1, k2⟩

/-! A polynomial's values, step by step. -/
theorem mk2_id (g : Gd a) : mk2 a = a := by
  obtain ⟨c1, c2⟩ := makeB_cases g.l1 g.l2
  have h : ¬ (plainB a.1 = false ∨ plainB a.2 = false) := by rw [g.p1, g.p2]; simp
  have hle := g.le
  have := (c2 h).2 (by omega)
  show (makeB a.1 a.2).1 = a
  rw [this, g.q1, g.q2]
def ptB (c : Nat) : Nat × Nat := (posB c, posB c)
theorem pt_gd {c : Nat} (hl : c < 18446744073709551616) (hp : plainB c = true) : Gd (ptB c) := ⟨posB_lt hl, posB_lt hl, posB_plain hp, posB_plain hp, Int.le_refl _, posB_pos _, posB_pos _⟩
def stepB (r X : Nat × Nat) (c : Nat) : Ans := if (mulB r X).2.1 = 0 then addB (mulB r X).1 (ptB c) else mulB r X
/-- After so many steps. -/
def evB (p : Nat → Nat) (n : Nat) (X : Nat × Nat) : Nat → Ans
  | 0 => (ptB (p (n - 1)), 0, noS)
  | j + 1 => if (evB p n X j).2.1 = 0 then stepB (evB p n X j).1 X (p (n - 2 - j)) else evB p n X j
theorem evB_stop {p : Nat → Nat} {n : Nat} {X : Nat × Nat} {j : Nat} (h : (evB p n X j).2.1 ≠ 0) : ∀ i, evB p n X (j + i) = evB p n X j
  | 0 => rfl
  | i + 1 => by
    have ih := evB_stop h i
    show (if (evB p n X (j + i)).2.1 = 0 then _ else evB p n X (j + i)) = _
    rw [ih, if_neg h]
end
section
variable {x y : Nat × Nat}
/-- The document's operation on two boxes. -/
theorem refop (E : Nat → Option Value) (k : Int) (x1 : x.1 < 18446744073709551616) (x2 : x.2 < 18446744073709551616) (y1 : y.1 < 18446744073709551616) (y2 : y.2 < 18446744073709551616) :
    DCall Tryz.prog E 18 [intD k, boxD x, boxD y] (.data (ansD (refB k (nm (mk2 x).1) (nm (mk2 x).2) (nm (mk2 y).1) (nm (mk2 y).2)))) := by
  have g := mk2_gd x1 x2
  have g' := mk2_gd y1 y2
  have hz : holds0B (nm (mk2 y).1) (nm (mk2 y).2) = false → (nm (mk2 y).1).n ≠ 0 ∧ (nm (mk2 y).2).n ≠ 0 := fun hz => by
    have h0 := holds0_idx g'
    rw [hz] at h0
    have hle := g'.le
    have : ¬ (idx (mk2 y).1 ≤ 0 ∧ 0 ≤ idx (mk2 y).2) := fun k => by rw [decide_eq_true k.1, decide_eq_true k.2] at h0; cases h0
    exact ⟨n_zero g'.l1 g'.p1 (by omega), n_zero g'.l2 g'.p2 (by omega)⟩
  exact rop_c E k (made_c E x1 x2 g.l1 g.l2) (made_c E y1 y2 g'.l1 g'.l2) (nplain_nt _) (nplain_nt _) (nplain_nt _) (nplain_nt _) hz
end
end Go.Enc
end

section
set_option linter.unusedSimpArgs false
set_option maxRecDepth 100000
namespace Go.Enc
open Go.Proofs Go.Enc.Dg Go.Enc.Nu Go.Enc.Fl

theorem rright_c (E : Nat → Option Value) {l : List Nat} (hl : ∀ x ∈ l, x < 18446744073709551616) (hlen : l.length ≤ 1152921504606846976) : DCall Tryz.prog E 67 [usD l] (.data (intD (rightB l))) := by
  refine dcall_of Tryz.func67 rfl (by kernel_rfl) Tryz.ntmps67 (by kernel_rfl) (by simp) (rs := [.tmp 2]) rfl ?_
  rintro ⟨P, E, σ0, w0, base, n, kb, df⟩ rfl rfl rfl rfl
  have hml : (l.map uD).length = l.length := List.length_map _
  by_cases h1 : l.length < 1
  · have hr : rightB l = 8 := if_pos (.inl h1)
    have e1 : decide ((l.length : Int) < 1) = true := tD (by omega)
    rw [hr]
    simp -implicitDefEqProofs only [go_sem, hml, div1, e1, finK]
  have e1 : decide ((l.length : Int) < 1) = false := fD (by omega)
  by_cases h2 : 9 < l.length
  · have hr : rightB l = 8 := if_pos (.inr h2)
    have e2 : decide ((l.length : Int) > 9) = true := tD (by omega)
    rw [hr]
    simp -implicitDefEqProofs only [go_sem, hml, div1, e1, e2, finK]
  have e2 : decide ((l.length : Int) > 9) = false := fD (by omega)
  have hr : rightB l = if ∀ x ∈ l, plainB x = true then 0 else 1 := if_neg (by omega)
  simp -implicitDefEqProofs only [go_sem, hml, div1, e1, e2]
  rw [stop_eq]
  refine dwp_loop (α := {i : Nat // i ≤ l.length ∧ ∀ j x, j < i → l[j]? = some x → plainB x = true}) (fun i => St.of [(0, .d (usD l)), (3, .d (intD i.1))] []) (fun i => l.length - i.1)
    ⟨0, Nat.zero_le _, fun j x h _ => by omega⟩ (weak_of ?_ ?_ rfl) (by kernel_rfl) (fun i => ?_)
  · have c0 : ((0 : Nat) : Int) = 0 := rfl
    simp -implicitDefEqProofs only [go_sem, c0]
  · simp -implicitDefEqProofs only [go_sem]
  · obtain ⟨i, hi, hp⟩ := i
    by_cases hA : i < l.length
    · obtain ⟨x, hx⟩ := get_of_lt hA
      have hxl := hl x (List.mem_of_getElem? hx)
      have eA : decide ((i : Int) < (l.length : Int)) = true := tD (by omega)
      have w1 : IntKind.i64.wrap ((i : Int) + 1) = ((i + 1 : Nat) : Int) := addN1 (by omega)
      have pc := plainr_c E hxl
      rw [plainB_eq hxl] at pc
      simp -implicitDefEqProofs only [go_sem, hml, div1, eA, hA, us_get hx]
      refine Call.intro pc ?_
      cases hpx : plainB x
      · have hall : ¬ ∀ x ∈ l, plainB x = true := fun h => by rw [h x (List.mem_of_getElem? hx)] at hpx; cases hpx
        rw [if_neg hall] at hr
        rw [hr]
        simp -implicitDefEqProofs only [go_sem, finK]
      · obtain ⟨i', hi'⟩ : ∃ i' : {i : Nat // i ≤ l.length ∧ ∀ j x, j < i → l[j]? = some x → plainB x = true}, i'.1 = i + 1 := ⟨⟨i + 1, hA, fun j y hj hy => by
          rcases Nat.lt_or_ge j i with h | h
          · exact hp j y h hy
          · have : j = i := by omega
            subst this
            rw [hx] at hy; cases hy; exact hpx⟩, rfl⟩
        simp -implicitDefEqProofs only [go_sem, w1]
        refine ⟨i', weak_of ?_ ?_ rfl, by simp only [hi']; omega⟩
        · simp -implicitDefEqProofs only [go_sem, hi']
        · simp -implicitDefEqProofs only [go_sem]
    · have eA : decide ((i : Int) < (l.length : Int)) = false := fD (by omega)
      have hall : ∀ x ∈ l, plainB x = true := fun x hx => by
        obtain ⟨j, hj⟩ := List.getElem?_of_mem hx
        exact hp j x (by have := lt_of_get hj; omega) hj
      rw [if_pos hall] at hr
      rw [hr]
      simp -implicitDefEqProofs only [go_sem, hml, div1, eA, finK]
theorem point_c (E : Nat → Option Value) (b : Nat) : DCall Tryz.prog E 68 [.v (.int .u64 b)] (.data (boxD (ptB b))) := by
  refine dcall_of Tryz.func68 rfl (by kernel_rfl) Tryz.ntmps68 (by kernel_rfl) (by simp) (rs := [.cell 2 27]) rfl ?_
  rintro ⟨P, E, σ0, w0, base, n, kb, df⟩ rfl rfl rfl rfl
  simp -implicitDefEqProofs only [go_sem]
  refine Call.intro (positive_c _ b) ?_
  simp -implicitDefEqProofs only [go_sem]
  refine Call.intro (positive_c _ b) ?_
  simp -implicitDefEqProofs only [go_sem, ptB]
end Go.Enc
end

section
set_option linter.unusedSimpArgs false
set_option maxRecDepth 100000
namespace Go.Enc
open Go.Proofs Go.Enc.Dg Go.Enc.Nu Go.Enc.Fl

def coef (l : List Nat) (i : Nat) : Nat := (l[i]?).getD 0
theorem coef_get {l : List Nat} {i x : Nat} (h : l[i]? = some x) : coef l i = x := by unfold coef; rw [h]; rfl
/-- What Eval answers. -/
def evalR (l : List Nat) (X : Nat × Nat) : Ans := if rightB l = 0 then evB (coef l) l.length X (l.length - 1) else ((0, 0), rightB l, noS)
def evalE (q : Nat → Addr) (l : List Nat) (X : Nat × Nat) : D := if rightB l = 0 then errD q (evalR l X).2.1 (evalR l X).2.2 else errR q (rightB l)
/-- What is known of a step. -/
structure Stp (E : Nat → Option Value) (q : Nat → Addr) (l : List Nat) (X : Nat × Nat) (j : Nat) (R M A : Ans) : Prop where
  r0 : R.2.1 = 0
  gr : Gd R.1
  m : DCall Tryz.prog E 43 [ivD R.1, ivD X] (.data (.tup [ivD M.1, errD q M.2.1 M.2.2]))
  m1 : Res1 M
  ma : M.2.1 = 0 → DCall Tryz.prog E 41 [ivD M.1, ivD (ptB (coef l (l.length - 2 - j)))] (.data (.tup [ivD A.1, errD q A.2.1 A.2.2])) ∧ Res1 A
  next : evB (coef l) l.length X (j + 1) = if M.2.1 = 0 then A else M
section
variable {E : Nat → Option Value} {q : Nat → Addr} {l : List Nat} {X : Nat × Nat}
theorem ev_start (hl : ∀ x ∈ l, x < 18446744073709551616) (hr : rightB l = 0) : (evB (coef l) l.length X 0).2.1 = 0 ∧ Gd (evB (coef l) l.length X 0).1 := by
  obtain ⟨h1, h2, h3⟩ := rightB_ok hr
  obtain ⟨x, hx⟩ := get_of_lt (l := l) (i := l.length - 1) (by omega)
  refine ⟨rfl, ?_⟩
  show Gd (ptB (coef l (l.length - 1)))
  rw [coef_get hx]
  exact pt_gd (hl x (List.mem_of_getElem? hx)) (h3 x (List.mem_of_getElem? hx))
theorem ev_step (hq : Sent E q) (hl : ∀ x ∈ l, x < 18446744073709551616) (hr : rightB l = 0) (gX : Gd X) {j : Nat} (hj : j + 1 < l.length) (h0 : (evB (coef l) l.length X j).2.1 = 0) (g : Gd (evB (coef l) l.length X j).1) :
    Stp E q l X j (evB (coef l) l.length X j) (mulB (evB (coef l) l.length X j).1 X) (addB (mulB (evB (coef l) l.length X j).1 X).1 (ptB (coef l (l.length - 2 - j)))) := by
  obtain ⟨h1, h2, h3⟩ := rightB_ok hr
  obtain ⟨m1, m2⟩ := mul_det hq g gX
  obtain ⟨x, hx⟩ := get_of_lt (l := l) (i := l.length - 2 - j) (by omega)
  have gp := pt_gd (hl x (List.mem_of_getElem? hx)) (h3 x (List.mem_of_getElem? hx))
  refine ⟨h0, g, m1, m2, fun hm => ?_, ?_⟩
  · have gm : Gd (mulB (evB (coef l) l.length X j).1 X).1 := by
      rcases m2 with ⟨_, _, gm⟩ | ⟨g1, _, _⟩
      · exact gm
      · omega
    rw [coef_get hx]
    exact add_det hq gm gp
  · show (if (evB (coef l) l.length X j).2.1 = 0 then stepB (evB (coef l) l.length X j).1 X (coef l (l.length - 2 - j)) else evB (coef l) l.length X j) = _
    rw [if_pos h0]; rfl
theorem ev_end {j : Nat} (hj : j + 1 < l.length) (h : (evB (coef l) l.length X (j + 1)).2.1 ≠ 0) : evB (coef l) l.length X (l.length - 1) = evB (coef l) l.length X (j + 1) := by
  have := evB_stop h (l.length - 1 - (j + 1))
  rwa [show j + 1 + (l.length - 1 - (j + 1)) = l.length - 1 by omega] at this
theorem ieval_c (hq : Sent E q) (hl : ∀ x ∈ l, x < 18446744073709551616) (hlen : l.length ≤ 1152921504606846976) (gX : Gd X) : DCall Tryz.prog E 65 [fsD l, ivD X] (.data (.tup [ivD (evalR l X).1, evalE q l X])) := by
  have hri := iright_c hq hl hlen
  have hE := evalR
  by_cases hr : rightB l = 0
  · obtain ⟨h1, h2, h3⟩ := rightB_ok hr
    have hR : evalR l X = evB (coef l) l.length X (l.length - 1) := if_pos hr
    have hE : evalE q l X = errD q (evalR l X).2.1 (evalR l X).2.2 := if_pos hr
    rw [hE, hR]
    have e0 : errR q (rightB l) = .v .nilIface := by rw [hr]; rfl
    rw [e0] at hri
    have hml : (l.map flD).length = l.length := List.length_map _
    obtain ⟨x0, hx0⟩ := get_of_lt (l := l) (i := l.length - 1) (by omega)
    have ap0 := add_pos (hl x0 (List.mem_of_getElem? hx0)) (h3 x0 (List.mem_of_getElem? hx0))
    have ev0 : evB (coef l) l.length X 0 = (ptB x0, 0, noS) := by show (ptB (coef l (l.length - 1)), _, _) = _; rw [coef_get hx0]
    have wn1 : IntKind.i64.wrap ((l.length : Int) - 1) = ((l.length - 1 : Nat) : Int) := subN1 (by omega)
    have w2 : IntKind.i64.wrap ((l.length : Int) - 2) = (l.length : Int) - 2 := w64 (by omega)
    have hA0 : l.length - 1 < l.length := by omega
    refine dcall_of Tryz.func65 rfl (by kernel_rfl) Tryz.ntmps65 (by kernel_rfl) (by simp) (rs := [.cell 4 59, .tmp 5]) rfl ?_
    rintro ⟨P, E, σ0, w0, base, n, kb, df⟩ rfl rfl rfl rfl
    simp -implicitDefEqProofs only [go_sem]
    refine Call.intro hri ?_
    simp -implicitDefEqProofs only [go_sem, hml, div1, wn1, w2, hA0, fl_get hx0, ap0]
    rw [stop_eq]
    refine dwp_loop (α := {j : Nat // j < l.length ∧ (evB (coef l) l.length X j).2.1 = 0 ∧ Gd (evB (coef l) l.length X j).1}) (fun j => St.of [(0, .d (fsD l)), (3, .ptr 3 0), (4, .ptr 4 0), (8, .ptr 8 0), (9, .d (intD ((l.length : Int) - 2 - (j.1 : Int))))]
      [(3, ⟨none, [.d (flD X.1), .d (flD X.2)]⟩), (4, ⟨none, [.d (flD 0), .d (flD 0)]⟩), (8, ⟨none, [.d (flD (evB (coef l) l.length X j.1).1.1), .d (flD (evB (coef l) l.length X j.1).1.2)]⟩)]) (fun j => l.length - j.1)
      ⟨0, by omega, ev_start hl hr⟩ (weak_of ?_ ?_ rfl) (by kernel_rfl) (fun j => ?_)
    · simp -implicitDefEqProofs only [go_sem, Int.sub_zero]
    · simp -implicitDefEqProofs only [go_sem, ev0, ptB]
    · obtain ⟨j, hj, z0, gz⟩ := j
      by_cases hA : j + 1 < l.length
      · have S := ev_step (E := E) hq hl hr gX hA z0 gz
        obtain ⟨k, hk⟩ : ∃ k : Nat, l.length - 2 - j = k := ⟨_, rfl⟩
        obtain ⟨x, hx⟩ := get_of_lt (l := l) (i := k) (by omega)
        have hkx : coef l (l.length - 2 - j) = x := by rw [hk]; exact coef_get hx
        have ap := add_pos (hl x (List.mem_of_getElem? hx)) (h3 x (List.mem_of_getElem? hx))
        have hkI : (l.length : Int) - 2 - (j : Int) = (k : Int) := by omega
        have hkA : k < l.length := by omega
        have eA : decide ((k : Int) ≥ 0) = true := geZ k
        have w1 : IntKind.i64.wrap ((k : Int) - 1) = (l.length : Int) - 2 - ((j + 1 : Nat) : Int) := by rw [w64 (by omega)]; omega
        have hend := ev_end (X := X) hA
        generalize mulB (evB (coef l) l.length X j).1 X = M at S
        generalize addB M.1 (ptB (coef l (l.length - 2 - j))) = A at S
        obtain ⟨_, _, sm, sm1, sma, snext⟩ := S
        rw [hkx] at sma
        simp -implicitDefEqProofs only [go_sem, hkI, eA]
        refine Call.intro sm ?_
        by_cases hm : M.2.1 = 0
        · have hM0 : errD q M.2.1 M.2.2 = .v .nilIface := if_pos hm
          obtain ⟨ma1, ma2⟩ := sma hm
          rw [if_pos hm] at snext
          rw [hM0]
          simp -implicitDefEqProofs only [go_sem, hml, hkI, hkA, fl_get hx, ap]
          refine Call.intro ma1 ?_
          by_cases ha : A.2.1 = 0
          · have hA1 : errD q A.2.1 A.2.2 = .v .nilIface := if_pos ha
            have gA : Gd A.1 := by
              rcases ma2 with ⟨_, _, gm⟩ | ⟨g1, _, _⟩
              · exact gm
              · omega
            obtain ⟨j', hj'⟩ : ∃ j' : {j : Nat // j < l.length ∧ (evB (coef l) l.length X j).2.1 = 0 ∧ Gd (evB (coef l) l.length X j).1}, j'.1 = j + 1 := ⟨⟨j + 1, hA, by rw [snext]; exact ha, by rw [snext]; exact gA⟩, rfl⟩
            rw [hA1]
            simp -implicitDefEqProofs only [go_sem, hkI, w1]
            refine ⟨j', weak_of ?_ ?_ rfl, by simp only [hj']; omega⟩
            · simp -implicitDefEqProofs only [go_sem, hj', w1]
            · simp -implicitDefEqProofs only [go_sem, hj', snext]
          · have hA1 : errD q A.2.1 A.2.2 = opE A.2.2 (eD q (A.2.1 - 1).toNat) := if_neg ha
            have h00 : A.1 = (0, 0) := by
              rcases ma2 with ⟨g1, _, _⟩ | ⟨_, _, g1⟩
              · exact absurd g1 ha
              · exact g1
            have hfin := hend (by rw [snext]; exact ha)
            rw [snext] at hfin
            rw [hfin, hA1, h00]
            simp -implicitDefEqProofs only [go_sem, hkI]
            refine fin_many ?_
            simp -implicitDefEqProofs only [go_sem]
        · have hM0 : errD q M.2.1 M.2.2 = opE M.2.2 (eD q (M.2.1 - 1).toNat) := if_neg hm
          have h00 : M.1 = (0, 0) := by
            rcases sm1 with ⟨g1, _, _⟩ | ⟨_, _, g1⟩
            · exact absurd g1 hm
            · exact g1
          rw [if_neg hm] at snext
          have hfin := hend (by rw [snext]; exact hm)
          rw [snext] at hfin
          rw [hfin, hM0, h00]
          simp -implicitDefEqProofs only [go_sem, hkI]
          refine fin_many ?_
          simp -implicitDefEqProofs only [go_sem]
      · have eA : decide ((l.length : Int) - 2 - (j : Int) ≥ 0) = false := fD (by omega)
        have hj1 : j = l.length - 1 := by omega
        subst hj1
        have hE0 : errD q (evB (coef l) l.length X (l.length - 1)).2.1 (evB (coef l) l.length X (l.length - 1)).2.2 = .v .nilIface := if_pos z0
        rw [hE0]
        simp -implicitDefEqProofs only [go_sem, eA]
        refine fin_many ?_
        simp -implicitDefEqProofs only [go_sem]
  · have hR : evalR l X = ((0, 0), rightB l, noS) := if_neg hr
    have hE : evalE q l X = errR q (rightB l) := if_neg hr
    have hE2 : errR q (rightB l) = eD q (rightB l - 1).toNat := if_neg hr
    rw [hE, hR, hE2]
    rw [hE2] at hri
    refine dcall_of Tryz.func65 rfl (by kernel_rfl) Tryz.ntmps65 (by kernel_rfl) (by simp) (rs := [.cell 4 59, .tmp 5]) rfl ?_
    rintro ⟨P, E, σ0, w0, base, n, kb, df⟩ rfl rfl rfl rfl
    simp -implicitDefEqProofs only [go_sem]
    refine Call.intro hri ?_
    simp -implicitDefEqProofs only [go_sem, errV]
    refine fin_many ?_
    simp -implicitDefEqProofs only [go_sem, errV]
end
end Go.Enc
end
