/-
  One step of the law Finds: its walk's parts.
-/
import Derived.Test.YtjlibljfpkmpfaaDoorFn
set_option linter.unusedSimpArgs false
set_option maxRecDepth 100000
namespace Go.Enc
open Go.Proofs Go.Enc.Dg Go.Enc.Nu Go.Enc.Fl Go.RowKit

section
variable {E : Nat → Option Value} {q : Nat → Addr}
def uT (l : List Nat) : List T := l.map fun (n : Nat) => .d (.v (.int .u64 (n : Int)))
theorem uT_len (l : List Nat) : (uT l).length = l.length := by simp [uT]
theorem uT_kill (k : Nat) (l : List Nat) : (uT l).map (killT k) = uT l := by simp [uT, killT]
theorem ukill_snoc (k : Nat) (l : List Nat) (x : Nat) : List.map (killT k) (uT l ++ [T.d (.v (.int .u64 (x : Int)))]) = uT (l ++ [x]) := by
  rw [← uT_kill k (l ++ [x])]; simp [uT]
theorem uT_refs (l : List Nat) (ks : List Nat) : (uT l).all (refIn ks) = true := by simp [uT, refIn, T.ref]
def iT (l : List Int) : List T := l.map fun n => .d (intD n)
theorem iT_len (l : List Int) : (iT l).length = l.length := by simp [iT]
theorem iT_kill (k : Nat) (l : List Int) : (iT l).map (killT k) = iT l := by simp [iT, killT]
theorem iT_refs (l : List Int) (ks : List Nat) : (iT l).all (refIn ks) = true := by simp [iT, refIn, T.ref]
theorem iT_get {l : List Int} {i : Nat} {n : Int} (h : l[i]? = some n) : (iT l)[i]? = some (.d (intD n)) := by unfold iT; rw [List.getElem?_map, h]; rfl
theorem dkill (k : Nat) (x : List D) : List.map (killT k) (List.map T.d x) = List.map T.d x := by rw [List.map_map]; rfl
abbrev fS2 (o : OpD) (a b c : Int) (l : List Nat) : St := St.of [(1, .ptr 1 0), (3, .d (intD a)), (4, .d (intD b)), (5, .d (intD c)), (7, .gs 78)] [(1, ⟨none, cellsO o⟩), (78, ⟨some (25, 1, true), uT l⟩)]
theorem finds_2 (o : OpD) {a b c' : Int} {l : List Nat} (hlen : l.length = 4) (hW : ∀ (i : Nat) (n : Int), (csL a b c')[i]? = some n → ∃ y : Nat × Nat, l[i]? = some y.1 ∧ DCall Tryd.prog E 13 [intD n] (.data (.tup [boxD y, bD true])))
    {C : Ctx} (hP : C.P = Tryd.prog) (hE : C.E = E) (hn : C.n = 174) (hk : C.kb = 0) {c : Code} (hcode : Tryd.f8.body = some c) :
    DC C (cutC 2 (cutC 5 c).2).1 (QW (fS2 o a b c' l)) (fS1 o a b c') := by
  obtain ⟨cs, hcs⟩ : ∃ cs, csL a b c' = cs := ⟨_, rfl⟩
  have hl4 : cs.length = 4 := by rw [← hcs]; rfl
  have hrow : (csL a b c').map (fun n => T.d (intD n)) = iT cs := by rw [hcs]; rfl
  rw [hcs] at hW
  obtain ⟨P, E', σ0, w0, base, n, kb, df⟩ := C
  simp only at hP hE hn hk
  subst hP hE hn hk
  simp only [Tryd.f8, Option.some.injEq] at hcode
  subst hcode
  simp only [cutC]
  simp only [fS1, hrow]
  simp -implicitDefEqProofs only [go_sem]
  rw [stop_eq]
  refine dwp_nil 7 78 25 1 rfl rfl ?_
  refine dwp_loop (α := {i : Nat // i ≤ 4}) (fun i => St.of [(1, .ptr 1 0), (2, .d (bD false)), (3, .d (intD a)), (4, .d (intD b)), (5, .d (intD c')), (6, .gs 57), (7, .gs 78), (8, .d (intD i.1))] [(1, ⟨none, cellsO o⟩), (57, ⟨some (3, 1, false), iT cs⟩), (78, ⟨some (25, 1, true), uT (l.take i.1)⟩)]) (fun i => 4 - i.1)
    ⟨0, Nat.zero_le _⟩ (weak_of ?_ ?_ (by simp [refsOk, iT_refs, uT_refs, refIn, T.ref])) (by kernel_rfl) (fun i => ?_)
  · have c0 : ((0 : Nat) : Int) = 0 := rfl
    simp -implicitDefEqProofs only [go_sem, upd, c0]
  · simp -implicitDefEqProofs only [go_sem, upd, List.take_zero, uT, List.map_nil]
  · obtain ⟨i, hi⟩ := i
    have htl : (l.take i).length = i := by rw [List.length_take]; omega
    by_cases hA : i < 4
    · obtain ⟨n, hn⟩ : ∃ n, cs[i]? = some n := ⟨_, List.getElem?_eq_getElem (by omega)⟩
      obtain ⟨y, hy, hw⟩ := hW i n hn
      have hg := iT_get hn
      have eA : decide ((i : Int) < ((4 : Nat) : Int)) = true := tD (by omega)
      have w1 : IntKind.i64.wrap ((i : Int) + 1) = ((i + 1 : Nat) : Int) := addN1 (by omega)
      have hmax : maxLen = 9223372036854775807 := by decide
      have hts := take_snoc hy
      obtain ⟨i', hi'⟩ : ∃ i' : {i : Nat // i ≤ 4}, i'.1 = i + 1 := ⟨⟨i + 1, hA⟩, rfl⟩
      simp -implicitDefEqProofs only [go_sem, iT_len, hl4, div1, eA, hA, hg]
      refine Call.intro hw ?_
      simp -implicitDefEqProofs only [go_sem]
      simp -implicitDefEqProofs only [go_sem, uT_len, htl, w1, ukill_snoc, hts, iT_kill, dkill]
      refine ⟨by omega, by omega, i', weak_of ?_ ?_ (by simp [refsOk, iT_refs, uT_refs, refIn, T.ref]), by simp only [hi']; omega⟩
      · simp -implicitDefEqProofs only [go_sem, hi']
      · simp -implicitDefEqProofs only [go_sem, hi', ukill_snoc, hts, iT_kill, dkill]
    · have eA : decide ((i : Int) < ((4 : Nat) : Int)) = false := fD (by omega)
      have ht : l.take i = l := List.take_of_length_le (by omega)
      simp -implicitDefEqProofs only [go_sem, iT_len, hl4, div1, eA, ht, QW, fS2]
      refine weak_of ?_ ?_ (by simp [refsOk, iT_refs, uT_refs, refIn, T.ref])
      · simp -implicitDefEqProofs only [go_sem]
      · simp -implicitDefEqProofs only [go_sem]
/-- The box's ends, as numbers. -/
def fiLo (o : OpD) : Int := sm5 o.b - 1
def fiHi (o : OpD) : Int := sm5 o.b + (o.b.fdiv (2 ^ min 5 64)) % 32
def fiD (o : OpD) : Int := 1 + (o.b.fdiv (2 ^ min 10 64)) % 8
abbrev fS3 (o : OpD) (a b c : Int) (L : List (Nat × Nat)) : St := St.of [(1, .ptr 1 0), (3, .d (intD a)), (4, .d (intD b)), (5, .d (intD c)), (15, .d (.sl 2 (boxC L)))] [(1, ⟨none, cellsO o⟩)]
theorem asDs_uT (l : List Nat) : asDs (uT l) = some (l.map uD) := by
  have : uT l = (l.map uD).map T.d := by simp [uT, uD]
  rw [this, asDs_map]
theorem finds_3 (o : OpD) {a b c' : Int} {l : List Nat} {L L2 : List (Nat × Nat)} {y1 y2 : Nat × Nat} (h1 : DCall Tryd.prog E 13 [intD (fiLo o)] (.data (.tup [boxD y1, bD true]))) (h2 : DCall Tryd.prog E 13 [intD (fiHi o)] (.data (.tup [boxD y2, bD true])))
    (h3 : DCall Tryd.prog E 14 [usD l, boxD (y1.1, y2.2), intD (fiD o), intD 0] (.data (.tup [.sl 2 (boxC L), .sl 2 (boxC L2), intD 0]))) {C : Ctx} (hP : C.P = Tryd.prog) (hE : C.E = E) (hn : C.n = 174) (hk : C.kb = 0) {c : Code} (hcode : Tryd.f8.body = some c) :
    DC C (cutC 4 (cutC 2 (cutC 5 c).2).2).1 (QW (fS3 o a b c' L)) (fS2 o a b c' l) := by
  have s1 := small5_c E o.b
  have q1 : pint .and .i64 (o.b.fdiv (2 ^ min 5 64)) 31 = some (.int .i64 (o.b.fdiv (2 ^ min 5 64) % 32)) := and_mask (k := 5) (by decide) (by decide)
  have q2 : pint .and .i64 (o.b.fdiv (2 ^ min 10 64)) 7 = some (.int .i64 (o.b.fdiv (2 ^ min 10 64) % 8)) := and_mask (k := 3) (by decide) (by decide)
  simp -implicitDefEqProofs only [go_sem, Option.some.injEq, Value.int.injEq, true_and] at q1 q2
  have w1 : IntKind.i64.wrap (sm5 o.b - 1) = fiLo o := by rw [w64 (by unfold sm5; omega)]; rfl
  have w2 : IntKind.i64.wrap (sm5 o.b + (o.b.fdiv (2 ^ min 5 64)) % 32) = fiHi o := by rw [w64 (by unfold sm5; omega)]; rfl
  have w3 : IntKind.i64.wrap (1 + (o.b.fdiv (2 ^ min 10 64)) % 8) = fiD o := by rw [w64 (by omega)]; rfl
  obtain ⟨P, E', σ0, w0, base, n, kb, df⟩ := C
  simp only at hP hE hn hk
  subst hP hE hn hk
  simp only [Tryd.f8, Option.some.injEq] at hcode
  subst hcode
  simp only [cutC]
  simp only [fS2, cellsO, OpD.cells, iD, uD]
  simp -implicitDefEqProofs only [go_sem]
  refine Call.intro s1 ?_
  simp -implicitDefEqProofs only [go_sem, w1]
  refine Call.intro h1 ?_
  simp -implicitDefEqProofs only [go_sem]
  refine drawn_intro (by kernel_rfl) (by kernel_rfl) (by kernel_rfl) ?_
  simp -implicitDefEqProofs only [go_sem]
  refine Call.intro s1 ?_
  simp -implicitDefEqProofs only [go_sem, q1, w2]
  refine Call.intro h2 ?_
  simp -implicitDefEqProofs only [go_sem, asDs_uT, q2, w3]
  refine Call.intro h3 ?_
  have n00 : ((0 : Int) != 0) = false := by decide
  simp -implicitDefEqProofs only [go_sem, n00, QW, fS3]
  refine weak_of ?_ ?_ (by simp [refsOk, refIn, T.ref])
  · simp -implicitDefEqProofs only [go_sem]
  · simp -implicitDefEqProofs only [go_sem, cellsO, OpD.cells, iD, uD]
end
end Go.Enc
