/-
  Systems of equations are solved: what is computed.
-/
import Derived.Test.YtjlibljfpkmpfaaGreatDoorSv28
set_option linter.unusedSimpArgs false
set_option maxRecDepth 100000
namespace Go.Enc
open Go.Proofs Go.Enc.Fl Go.RowKit
/-- Intervals as data, cell by cell. -/
def ivC (f : Nat → Nat × Nat) : Nat → List D
  | 0 => []
  | m + 1 => ivC f m ++ [flD (f m).1, flD (f m).2]
theorem ivT_ivC (f : Nat → Nat × Nat) : ∀ m, ivT f m = (ivC f m).map .d
  | 0 => rfl
  | m + 1 => by simp only [ivT, ivC, List.map_append, ivT_ivC f m]; rfl
theorem ivC_len (f : Nat → Nat × Nat) (m : Nat) : (ivC f m).length = m * 2 := by
  have := ivT_len f m
  rw [ivT_ivC, List.length_map] at this
  exact this
theorem ivC_take (f : Nat → Nat × Nat) : ∀ {m j : Nat}, j < m → ((ivC f m).drop (j * 2)).take 2 = [flD (f j).1, flD (f j).2] := fun {m j} h => by
  have := ivT_take f h
  rw [ivT_ivC, ← List.map_drop, ← List.map_take] at this
  have e : List.map T.d [flD (f j).1, flD (f j).2] = [.d (flD (f j).1), .d (flD (f j).2)] := rfl
  rw [← e] at this
  have inj : ∀ {x y : List D}, x.map T.d = y.map T.d → x = y := fun {x y} h => by
    have := congrArg asDs h
    rw [asDs_map, asDs_map] at this
    exact Option.some.inj this
  exact inj this
theorem ivT_data (f : Nat → Nat × Nat) (m : Nat) : asDs (ivT f m) = some (ivC f m) := by rw [ivT_ivC, asDs_map]
theorem ivT_kill (f : Nat → Nat × Nat) (k : Nat) : ∀ m, (ivT f m).map (killT k) = ivT f m
  | 0 => rfl
  | m + 1 => by simp only [ivT, List.map_append, ivT_kill f k m]; rfl
theorem gsT_kill {κ : Nat → Nat} {k n : Nat} (h : ∀ i, i < n → κ i ≠ k) : (gsT κ n).map (killT k) = gsT κ n := by
  refine (List.map_congr_left fun c hc => ?_).trans (List.map_id' _)
  obtain ⟨i, hi, rfl⟩ := gsT_mem hc
  simp only [killT, if_neg (h i hi)]
theorem gsT_succ (κ : Nat → Nat) (n : Nat) : gsT κ (n + 1) = gsT κ n ++ [.gs (κ n)] := by
  simp [gsT, List.range_succ]
/-- Rows as data. -/
def rowsD (a : Nat → Nat → Nat × Nat) (ln : Nat → Nat) (m : Nat) : D := .sl 1 ((List.range m).map fun i => .sl 2 (ivC (a i) (ln i)))
section
variable (M V S : Nat × Nat → Nat × Nat → AnsQ)
/-- The rows, so many columns done; none: not sure. -/
def elimS (A : Nat → Nat → Nat × Nat) (n : Nat) : Nat → Option (Nat → Nat → Nat × Nat)
  | 0 => some A
  | k + 1 => match elimS A n k with
    | none => none
    | some B => if (pvS B n k (n - k)).2 < 0 then none else
      match (rowS M V S (swp B k (pvS B n k (n - k)).2.toNat) n k (n - 1 - k)).2 with
      | some _ => none
      | none => some (rowS M V S (swp B k (pvS B n k (n - k)).2.toNat) n k (n - 1 - k)).1
/-- What is left of a row's right side. -/
def bkT (B : Nat → Nat → Nat × Nat) (out : Nat → Nat × Nat) (n i : Nat) (e : Option (ByteArray × D)) : Nat → (Nat × Nat) × Option (ByteArray × D)
  | 0 => (B i n, e)
  | m + 1 => ((S (bkT B out n i e m).1 (M (B i (i + 1 + m)) (out (i + 1 + m))).1).1, ors (ors (bkT B out n i e m).2 (M (B i (i + 1 + m)) (out (i + 1 + m))).2) (S (bkT B out n i e m).1 (M (B i (i + 1 + m)) (out (i + 1 + m))).1).2)
/-- The answer, so many of its numbers from the last on. -/
def bkS (B : Nat → Nat → Nat × Nat) (n : Nat) : Nat → (Nat → Nat × Nat) × Option (ByteArray × D)
  | 0 => (fun _ => (0, 0), none)
  | m + 1 => (upd (bkS B n m).1 (n - 1 - m) (V (bkT M S B (bkS B n m).1 n (n - 1 - m) (bkS B n m).2 m).1 (B (n - 1 - m) (n - 1 - m))).1,
      ors (bkT M S B (bkS B n m).1 n (n - 1 - m) (bkS B n m).2 m).2 (V (bkT M S B (bkS B n m).1 n (n - 1 - m) (bkS B n m).2 m).1 (B (n - 1 - m) (n - 1 - m))).2)
/-- The answer; none: not sure of one. -/
def solS (A : Nat → Nat → Nat × Nat) (n : Nat) : Option (Nat → Nat × Nat) := match elimS M V S A n n with
  | none => none
  | some B => match (bkS M V S B n n).2 with
    | some _ => none
    | none => some (bkS M V S B n n).1
end
/-- A square's numbers with the right side. -/
def augB (a : Nat → Nat → Nat × Nat) (b : Nat → Nat × Nat) (n : Nat) : Nat → Nat → Nat × Nat := fun i j => if j = n then b i else a i j
theorem ivT_aug (a : Nat → Nat → Nat × Nat) (b : Nat → Nat × Nat) (n i : Nat) : ivT (augB a b n i) (n + 1) = ivT (a i) n ++ [.d (flD (b i).1), .d (flD (b i).2)] := by
  simp only [ivT]
  rw [ivT_congr (g := a i) (fun j hj => by unfold augB; rw [if_neg (by omega)])]
  unfold augB
  rw [if_pos rfl]
/-- Are the first ones fair? -/
def fairs (f : Nat → Nat × Nat) : Nat → Bool
  | 0 => true
  | m + 1 => fairs f m && fairB (f m)
def fairR (A : Nat → Nat → Nat × Nat) (m : Nat) : Nat → Bool
  | 0 => true
  | i + 1 => fairR A m i && fairs (A i) m
section
variable {E : Nat → Option Value} {M V S : Nat × Nat → Nat × Nat → AnsQ} (O : Ops3 E M V S)
include O
theorem elimS_gd {A : Nat → Nat → Nat × Nat} {n : Nat} (hA : ∀ i j, i < n → j ≤ n → Gd (A i j)) : ∀ k, k ≤ n → ∀ B, elimS M V S A n k = some B → ∀ i j, i < n → j ≤ n → Gd (B i j)
  | 0, _, B, h => by simp only [elimS, Option.some.injEq] at h; subst h; exact hA
  | k + 1, hk, B, h => by
    simp only [elimS] at h
    split at h
    · cases h
    · rename_i B0 h0
      have g0 := elimS_gd hA k (by omega) B0 h0
      split at h
      · cases h
      · rename_i hneg
        have gs : ∀ i j, i < n → j ≤ n → Gd (swp B0 k (pvS B0 n k (n - k)).2.toNat i j) := fun i j hi hj => by
          have hat := pvS_at B0 n k (n - k)
          unfold swp
          split
          · exact g0 k j (by omega) hj
          · split
            · rcases hat with h | ⟨a, h1, h2, h3⟩
              · omega
              · rw [h3, Int.toNat_natCast]; exact g0 a j (by omega) hj
            · exact g0 i j hi hj
        split at h
        · cases h
        · cases h
          exact rowS_gd O gs (by omega) _ (Nat.le_refl _)
theorem bkT_gd {B : Nat → Nat → Nat × Nat} {out : Nat → Nat × Nat} {n i : Nat} {e : Option (ByteArray × D)} (hB : ∀ i j, i < n → j ≤ n → Gd (B i j)) (ho : ∀ j, Gd (out j)) (hi : i < n) : ∀ m, i + m < n → Gd (bkT M S B out n i e m).1
  | 0, _ => hB i n hi (Nat.le_refl _)
  | m + 1, hm => O.gs (bkT_gd hB ho hi m (by omega)) (O.gm (hB _ _ hi (by omega)) (ho _))
theorem bkS_gd {B : Nat → Nat → Nat × Nat} {n : Nat} (hB : ∀ i j, i < n → j ≤ n → Gd (B i j)) : ∀ m, m ≤ n → ∀ j, Gd ((bkS M V S B n m).1 j)
  | 0, _, j => gd_zero
  | m + 1, hm, j => by
    have ih := bkS_gd hB m (by omega)
    simp only [bkS, upd]
    split
    · exact O.gv (bkT_gd O hB ih (by omega) m (by omega)) (hB _ _ (by omega) (by omega))
    · exact ih j
end
/-- The keys of the rows. -/
abbrev kap (i : Nat) : Nat := 1000 + i
/-- The blocks of a system: with so many rows. -/
def HS (A : Nat → Nat → Nat × Nat) (w i : Nat) (e : D) : Nat → Option Obj := fun k =>
  if k = 35 then some ⟨none, [.gs 75, .hid e]⟩ else if k = 75 then some (rowsO kap i) else if 1000 ≤ k ∧ k < 1000 + i then some (rowO (A (k - 1000)) w) else none
theorem HS_sys (A : Nat → Nat → Nat × Nat) (n : Nat) (e : D) : Sys (HS A (n + 1) n e) 35 75 kap n A e := by
  refine ⟨rfl, rfl, fun i hi => ?_, fun i j _ _ h => by unfold kap at h; omega⟩
  unfold HS kap
  rw [if_neg (by omega), if_neg (by omega), if_pos (by omega), show 1000 + i - 1000 = i by omega]
theorem HS_deep (A : Nat → Nat → Nat × Nat) (w i : Nat) (e : D) : ∀ k o, HS A w i e k = some o → ∀ c ∈ o.cells, ∀ k', c.ref = some k' → HS A w i e k' ≠ none := by
  intro k o ho c hc k' hk'
  unfold HS at ho
  split at ho
  · cases ho
    simp only [List.mem_cons, List.not_mem_nil, or_false] at hc
    rcases hc with rfl | rfl
    · simp only [T.ref, Option.some.injEq] at hk'; subst hk'; simp [HS]
    · simp [T.ref] at hk'
  · split at ho
    · cases ho
      obtain ⟨x, hx, rfl⟩ := gsT_mem hc
      simp only [T.ref, Option.some.injEq] at hk'
      subst hk'
      unfold HS kap
      rw [if_neg (by omega), if_neg (by omega), if_pos (by omega)]
      simp
    · split at ho
      · cases ho
        rw [ivT_ref hc] at hk'
        cases hk'
      · cases ho
@[go_sem] theorem ren_t (s : St) (k k' i : Nat) : (s.ren k k').t i = renT k k' (s.t i) := (rfl)
theorem ren_h (s : St) (k k' j : Nat) : (s.ren k k').h j = if j = k' then (s.h k).map (Obj.ren k k') else if j = k then none else (s.h j).map (Obj.ren k k') := (rfl)
theorem ivT_ren (f : Nat → Nat × Nat) (k k' : Nat) : ∀ m, (ivT f m).map (renT k k') = ivT f m
  | 0 => rfl
  | m + 1 => by simp only [ivT, List.map_append, ivT_ren f k k' m]; rfl
theorem gsT_ren {κ : Nat → Nat} {k k' n : Nat} (h : ∀ i, i < n → κ i ≠ k) : (gsT κ n).map (renT k k') = gsT κ n := by
  refine (List.map_congr_left fun c hc => ?_).trans (List.map_id' _)
  obtain ⟨i, hi, rfl⟩ := gsT_mem hc
  simp only [renT, if_neg (h i hi)]
theorem HS_kill {A : Nat → Nat → Nat × Nat} {w i k k' : Nat} {e : D} {o : Obj} (h1 : k ≠ 75) (h2 : k < 1000) (h : HS A w i e k' = some o) : ({ vec := o.vec, cells := o.cells.map (killT k) } : Obj) = o := by
  unfold HS at h
  split at h
  · cases h
    simp only [List.map_cons, List.map_nil, killT, if_neg h1.symm]
  · split at h
    · cases h
      rw [gsT_kill (fun j hj => by unfold kap; omega)]
    · split at h
      · cases h
        rw [ivT_kill]
      · cases h
/-- .. with the row that is being made. -/
def HI (A : Nat → Nat → Nat × Nat) (w i : Nat) (e : D) : Nat → Option Obj := upd (HS A w i e) 55 (some (rowO (A i) w))
/-- .. that has been added. -/
def HJ (A : Nat → Nat → Nat × Nat) (w i : Nat) (e : D) : Nat → Option Obj := upd (HI A w i e) 75 (some ⟨some (154, 1, true), gsT kap i ++ [.gs 55]⟩)
theorem HI_deep (A : Nat → Nat → Nat × Nat) (w i : Nat) (e : D) : ∀ k o, HI A w i e k = some o → ∀ c ∈ o.cells, ∀ k', c.ref = some k' → HI A w i e k' ≠ none := upd_deep (HS_deep A w i e) (fun c hc => ivT_ref hc)
theorem HJ_deep (A : Nat → Nat → Nat × Nat) (w i : Nat) (e : D) : ∀ k o, HJ A w i e k = some o → ∀ c ∈ o.cells, ∀ k', c.ref = some k' → HJ A w i e k' ≠ none := by
  have hl : ∀ j, HI A w i e j ≠ none → HJ A w i e j ≠ none := fun j hj => by
    unfold HJ
    simp only [upd]
    split
    · simp
    · exact hj
  intro k o ho c hc k' hk'
  by_cases h : k = 75
  · subst h
    unfold HJ at ho
    rw [upd_same] at ho
    cases ho
    refine hl k' ?_
    rcases List.mem_append.1 hc with hc | hc
    · exact HI_deep A w i e 75 (rowsO kap i) (by unfold HI; rw [upd_ne _ _ (by omega)]; rfl) c hc k' hk'
    · simp only [List.mem_cons, List.not_mem_nil, or_false] at hc
      subst hc
      simp only [T.ref, Option.some.injEq] at hk'
      subst hk'
      unfold HI
      rw [upd_same]; simp
  · unfold HJ at ho
    rw [upd_ne _ _ h] at ho
    exact hl k' (HI_deep A w i e k o ho c hc k' hk')
/-- What Solve answers. -/
noncomputable def solR (M V S : Nat × Nat → Nat × Nat → AnsQ) (q : Nat → Addr) (a : Nat → Nat → Nat × Nat) (ln : Nat → Nat) (m : Nat) (b : Nat → Nat × Nat) (n : Nat) : Res :=
  if n < 1 ∨ 4 < n ∨ m ≠ n ∨ ¬ (∀ i, i < m → ln i = n) then .data (.tup [.v (.slice none 0 0), eD q 7])
  else if fairR (augB a b n) (n + 1) n = false then .data (.tup [.v (.slice none 0 0), eD q 2])
  else match solS M V S (augB a b n) n with
    | none => .data (.tup [.v (.slice none 0 0), eD q 8])
    | some out => .ownP 59 2 false (ivC out n) (.v .nilIface)
theorem repl_ivT (n : Nat) : List.replicate (n * 2) (T.d (.v (.float .f64 0))) = ivT (fun _ => (0, 0)) n := by
  induction n with
  | zero => rfl
  | succ n ih =>
    rw [Nat.succ_mul, List.replicate_succ', List.replicate_succ', ih, List.append_assoc]
    rfl
theorem div_two (n : Nat) : n * 2 / 2 = n := by omega
set_option maxRecDepth 100000 in
@[go_sem] theorem makeT_ivs (E : Nat → Option Value) (σ0 : Mem) (w0 : World) (base nt kb : Nat) (df : List Deferred) (G0 : Gh) (s : St) (d : Nat) (n : Int) (K : St → Prop) : makeT ⟨Tryz.prog, E, σ0, w0, base, nt, kb, df, G0⟩ s d 154 (.d (.v (.int .i64 n))) (.d (.v (.int .i64 n))) K =
    (0 ≤ n ∧ n.toNat * 16 ≤ 281474976710656 ∧ n.toNat ≤ maxLen ∧ s.h (kb + d) = none ∧ K (s.row kb d ⟨some (59, 2, false), ivT (fun _ => (0, 0)) n.toNat⟩)) := by
  have h : slT Tryz.prog 154 = some (59, 2, 16, [.float .f64 0, .float .f64 0]) := by kernel_rfl
  simp only [makeT, h, true_and]
  have : allEq (Value.float .f64 0) [Value.float .f64 0, Value.float .f64 0] = true := by decide
  simp only [this, true_and, repl_ivT]
/-- The heap with the answer's numbers. -/
noncomputable def HB (H : Nat → Option Obj) (κ : Nat → Nat) (n : Nat) (B : Nat → Nat → Nat × Nat) (e : D) (out : Nat → Nat × Nat) : Nat → Option Obj := upd (HM H 35 75 κ n B e) 102 (some ⟨some (59, 2, false), ivT out n⟩)
/-- .. and a row's right side. -/
noncomputable def HC (H : Nat → Option Obj) (κ : Nat → Nat) (n : Nat) (B : Nat → Nat → Nat × Nat) (e : D) (out : Nat → Nat × Nat) (v : Nat × Nat) : Nat → Option Obj := upd (HB H κ n B e out) 17 (some ⟨none, [.d (flD v.1), .d (flD v.2)]⟩)
section
variable {H : Nat → Option Obj} {κ : Nat → Nat} {n : Nat} {A B : Nat → Nat → Nat × Nat} {e e' e0 : D} {out : Nat → Nat × Nat} {v : Nat × Nat}
theorem HB_35 : HB H κ n B e out 35 = some ⟨none, [.gs 75, .hid e]⟩ := by unfold HB; rw [upd_ne _ _ (by omega), HM_s]
theorem HB_75 (Y : Sys H 35 75 κ n A e0) : HB H κ n B e out 75 = some (rowsO κ n) := by unfold HB; rw [upd_ne _ _ (by omega)]; exact (HM_sys Y).r
theorem HB_102 : HB H κ n B e out 102 = some ⟨some (59, 2, false), ivT out n⟩ := by unfold HB; rw [upd_same]
theorem HB_row (Y : Sys H 35 75 κ n A e0) {i : Nat} (hi : i < n) (h : κ i ≠ 102) : HB H κ n B e out (κ i) = some (rowO (B i) (n + 1)) := by unfold HB; rw [upd_ne _ _ h, HM_row Y hi]
theorem HB_none (Y : Sys H 35 75 κ n A e0) {k : Nat} (h1 : k ≠ 102) (h : H k = none) : HB H κ n B e out k = none := by
  unfold HB
  rw [upd_ne _ _ h1]
  exact Decidable.byContradiction fun q => (HM_live Y).1 q h
theorem HB_deep (Y : Sys H 35 75 κ n A e0) (hd : ∀ k o, H k = some o → ∀ c ∈ o.cells, ∀ k', c.ref = some k' → H k' ≠ none) : ∀ k o, HB H κ n B e out k = some o → ∀ c ∈ o.cells, ∀ k', c.ref = some k' → HB H κ n B e out k' ≠ none := upd_deep (HM_deep Y hd) (fun c hc => ivT_ref hc)
theorem HC_deep (Y : Sys H 35 75 κ n A e0) (hd : ∀ k o, H k = some o → ∀ c ∈ o.cells, ∀ k', c.ref = some k' → H k' ≠ none) : ∀ k o, HC H κ n B e out v k = some o → ∀ c ∈ o.cells, ∀ k', c.ref = some k' → HC H κ n B e out v k' ≠ none := upd_deep (HB_deep Y hd) (by simp [T.ref])
theorem HB_same {out' : Nat → Nat × Nat} {k : Nat} (h1 : k ≠ 102) (h2 : k ≠ 35) : HB H κ n B e out k = HB H κ n B e' out' k := by
  unfold HB
  rw [upd_ne _ _ h1, upd_ne _ _ h1]
  unfold HM
  rw [if_neg h2, if_neg h2]
theorem HC_17 : HC H κ n B e out v 17 = some ⟨none, [.d (flD v.1), .d (flD v.2)]⟩ := by unfold HC; rw [upd_same]
theorem HC_ne {k : Nat} (h : k ≠ 17) : HC H κ n B e out v k = HB H κ n B e out k := by unfold HC; rw [upd_ne _ _ h]
end
/-- What stands before a round of the elimination. -/
structure SoI (M V S : Nat × Nat → Nat × Nat → AnsQ) (A : Nat → Nat → Nat × Nat) (n : Nat) where
  k : Nat
  κ : Nat → Nat
  H : Nat → Option Obj
  B : Nat → Nat → Nat × Nat
  hk : k ≤ n
  he : elimS M V S A n k = some B
  hs : Sys H 35 75 κ n B (errQ none)
  hd : ∀ k o, H k = some o → ∀ c ∈ o.cells, ∀ k', c.ref = some k' → H k' ≠ none
  hl : ∀ k', H k' ≠ none → k' = 35 ∨ k' = 75 ∨ 1000 ≤ k'
theorem HS_live {A : Nat → Nat → Nat × Nat} {w i k' : Nat} {e : D} (h : HS A w i e k' ≠ none) : k' = 35 ∨ k' = 75 ∨ 1000 ≤ k' := by
  unfold HS at h
  split at h
  · omega
  · split at h
    · omega
    · split at h
      · omega
      · exact absurd rfl h
theorem elimS_none {M V S : Nat × Nat → Nat × Nat → AnsQ} {A : Nat → Nat → Nat × Nat} {n k : Nat} (h : elimS M V S A n k = none) : ∀ j, elimS M V S A n (k + j) = none
  | 0 => h
  | j + 1 => by
    show elimS M V S A n (k + j + 1) = none
    simp only [elimS, elimS_none h j]
theorem solS_none {M V S : Nat × Nat → Nat × Nat → AnsQ} {A : Nat → Nat → Nat × Nat} {n k : Nat} (hk : k ≤ n) (h : elimS M V S A n k = none) : solS M V S A n = none := by
  have := elimS_none h (n - k)
  rw [show k + (n - k) = n by omega] at this
  unfold solS
  rw [this]
theorem pvH_sys {H : Nat → Option Obj} {ks kR n k : Nat} {κ : Nat → Nat} {A : Nat → Nat → Nat × Nat} {e : D} (S : Sys H ks kR κ n A e) {x : Nat} (hk : k < n) (hx : x < n) : Sys (pvH H kR κ n k (x : Int)) ks kR (swp κ k x) n (swp A k x) e := by
  unfold pvH
  rw [if_neg (by omega), Int.toNat_natCast]
  exact S.swap hk hx
theorem pvH_deep {H : Nat → Option Obj} {ks kR n k : Nat} {κ : Nat → Nat} {A : Nat → Nat → Nat × Nat} {e : D} (S : Sys H ks kR κ n A e) {x : Nat} (hk : k < n) (hx : x < n) (hd : ∀ k o, H k = some o → ∀ c ∈ o.cells, ∀ k', c.ref = some k' → H k' ≠ none) :
    ∀ j o, pvH H kR κ n k (x : Int) j = some o → ∀ c ∈ o.cells, ∀ k', c.ref = some k' → pvH H kR κ n k (x : Int) k' ≠ none := by
  have Z := pvH_sys S hk hx
  have hl : ∀ j, H j ≠ none → pvH H kR κ n k (x : Int) j ≠ none := fun j hj => by
    unfold pvH
    rw [if_neg (by omega)]
    simp only [upd]
    split
    · simp
    · exact hj
  intro j o ho c hc k' hk'
  by_cases h : j = kR
  · subst h
    rw [Z.r] at ho
    cases ho
    obtain ⟨i, hi, rfl⟩ := gsT_mem hc
    simp only [T.ref, Option.some.injEq] at hk'
    subst hk'
    rw [Z.row i hi]; simp
  · unfold pvH at ho
    rw [if_neg (by omega), upd_ne _ _ h] at ho
    exact hl k' (hd j o ho c hc k' hk')
theorem pvH_live {H : Nat → Option Obj} {kR n k : Nat} {κ : Nat → Nat} {x : Int} {j : Nat} (hR : H kR ≠ none) (h : pvH H kR κ n k x j ≠ none) : H j ≠ none := by
  unfold pvH at h
  split at h
  · exact h
  · simp only [upd] at h
    split at h
    · rename_i e; rw [e]; exact hR
    · exact h
theorem pivot_c' {E : Nat → Option Value} {H : Nat → Option Obj} {ks kR n k : Nat} {κ : Nat → Nat} {A : Nat → Nat → Nat × Nat} {e : D} (S : Sys H ks kR κ n A e) (hn4 : n ≤ 4) (hk : k < n) (hG : ∀ i j, i < n → j ≤ n → Gd (A i j)) (hDp : ∀ k o, H k = some o → ∀ c ∈ o.cells, ∀ k', c.ref = some k' → H k' ≠ none) {C : Ctx} (hP : C.P = Tryz.prog) (hE : C.E = E) {s : St} (hs : s.h = H) {dst : Option Nat} :
    PCall C 135 [.ptr ks 0, .d (intD k)] dst s ((⟨s.t, pvH H kR κ n k (pvS A n k (n - k)).2⟩ : St).put dst (.d (bD (decide (0 ≤ (pvS A n k (n - k)).2))))) := by
  obtain ⟨t, h⟩ := s
  simp only at hs
  subst hs
  exact pivot_c S hn4 hk hG hDp hP hE
theorem clear_c' {E : Nat → Option Value} {M V S : Nat × Nat → Nat × Nat → AnsQ} {H : Nat → Option Obj} {ks kR n k : Nat} {κ : Nat → Nat} {A : Nat → Nat → Nat × Nat} (O : Ops3 E M V S) (Y : Sys H ks kR κ n A (errQ none)) (hn4 : n ≤ 4) (hk : k < n) (hG : ∀ i j, i < n → j ≤ n → Gd (A i j)) (hDp : ∀ k o, H k = some o → ∀ c ∈ o.cells, ∀ k', c.ref = some k' → H k' ≠ none) {C : Ctx} (hP : C.P = Tryz.prog) (hE : C.E = E) {s : St} (hs : s.h = H) {dst : Option Nat} :
    PCall C 136 [.ptr ks 0, .d (intD k)] dst s ((⟨s.t, clH M V S H ks kR κ n A k⟩ : St).put dst (.d (.tup []))) := by
  obtain ⟨t, h⟩ := s
  simp only at hs
  subst hs
  exact clear_c O Y hn4 hk hG hDp hP hE
theorem swp_gd {B : Nat → Nat → Nat × Nat} {n k x : Nat} (h : ∀ i j, i < n → j ≤ n → Gd (B i j)) (hk : k < n) (hx : x < n) : ∀ i j, i < n → j ≤ n → Gd (swp B k x i j) := fun i j hi hj => by
  unfold swp
  split
  · exact h k j hk hj
  · split
    · exact h x j hx hj
    · exact h i j hi hj
section
variable {E : Nat → Option Value} {q : Nat → Addr} {M V S : Nat × Nat → Nat × Nat → AnsQ} {a : Nat → Nat → Nat × Nat} {ln : Nat → Nat} {m n : Nat} {b : Nat → Nat × Nat}
/-- The first loop: what stands behind so many rows. -/
def soS (a : Nat → Nat → Nat × Nat) (ln : Nat → Nat) (m : Nat) (b : Nat → Nat × Nat) (n i : Nat) : St :=
  St.fn [(0, .d (rowsD a ln m)), (1, .d (.sl 2 (ivC b n))), (6, .d (intD n)), (7, .ptr 35 0), (8, .d (bD (fairR (augB a b n) (n + 1) i))), (36, .d (rowsD a ln m)), (37, .d (intD m)), (38, .d (intD i))] (HS (augB a b n) (n + 1) i (errQ none))
theorem isolve_c (hq : Sent E q) (O : Ops3 E M V S) (hsz : m ≤ 1000000) (hga : ∀ i j, i < m → j < ln i → Gd (a i j)) (hgb : ∀ i, i < n → Gd (b i)) :
    DCall Tryz.prog E 107 [rowsD a ln m, .sl 2 (ivC b n)] (solR M V S q a ln m b n) := by
  refine dcall_of Tryz.func107 rfl (by kernel_rfl) Tryz.ntmps107 (by kernel_rfl) (by simp) (rs := [.tmp 4, .tmp 5]) rfl ?_
  rintro ⟨P, E, σ0, w0, base, n, kb, df, G0⟩ rfl rfl rfl rfl
  have e7 : E 7 = some (errV (q 7)) := hq.var 7 (by decide)
  have e2 : E 2 = some (errV (q 2)) := hq.var 2 (by decide)
  have e8 : E 8 = some (errV (q 8)) := hq.var 8 (by decide)
  have hl : ∀ f : Nat → D, ((List.range m).map f).length = m := fun f => by simp
  have d2 := div_two
  have cl := ivC_len
  by_cases h1 : n < 1 ∨ 4 < n ∨ m ≠ n
  · have hr : solR M V S q a ln m b n = .data (.tup [.v (.slice none 0 0), eD q 7]) := by
      unfold solR
      rw [if_pos (by rcases h1 with h | h | h <;> simp [h])]
    rw [hr]
    have fin : n < 1 ∨ (¬ n < 1 ∧ 4 < n) ∨ (¬ n < 1 ∧ ¬ 4 < n ∧ m ≠ n) := by omega
    rcases fin with h | ⟨h, h'⟩ | ⟨h, h', h''⟩
    · have eA := tB (tD (show (n : Int) < 1 by omega))
      simp -implicitDefEqProofs only [go_sem, rowsD, hl, cl, d2, Nat.div_one, eA]
      refine drawn_intro (by kernel_rfl) (by kernel_rfl) (by kernel_rfl) ?_
      simp -implicitDefEqProofs only [go_sem, e7, errV]
      refine fin_many ?_
      simp -implicitDefEqProofs only [go_sem, errV]
    · have eA := tV (fD (show ¬ (n : Int) < 1 by omega))
      have eB := tB (tD (show (n : Int) > 4 by omega))
      simp -implicitDefEqProofs only [go_sem, rowsD, hl, cl, d2, Nat.div_one, eA, eB]
      refine drawn_intro (by kernel_rfl) (by kernel_rfl) (by kernel_rfl) ?_
      simp -implicitDefEqProofs only [go_sem, e7, errV]
      refine fin_many ?_
      simp -implicitDefEqProofs only [go_sem, errV]
    · have eA := tV (fD (show ¬ (n : Int) < 1 by omega))
      have eB := tV (fD (show ¬ (n : Int) > 4 by omega))
      have eC := tB (show ((m : Int) != (n : Int)) = true from bne_iff_ne.2 (by omega))
      simp -implicitDefEqProofs only [go_sem, rowsD, hl, cl, d2, Nat.div_one, eA, eB, eC]
      refine drawn_intro (by kernel_rfl) (by kernel_rfl) (by kernel_rfl) ?_
      simp -implicitDefEqProofs only [go_sem, e7, errV]
      refine fin_many ?_
      simp -implicitDefEqProofs only [go_sem, errV]
  have hn1 : 1 ≤ n := by omega
  have hn4 : n ≤ 4 := by omega
  obtain rfl : m = n := by omega
  have eA := tV (fD (show ¬ (m : Int) < 1 by omega))
  have eB := tV (fD (show ¬ (m : Int) > 4 by omega))
  have eC := tV (show ((m : Int) != (m : Int)) = false by simp)
  simp -implicitDefEqProofs only [go_sem, rowsD, hl, cl, d2, Nat.div_one, eA, eB, eC]
  rw [stop_eq]
  have hmx : ∀ x, x ≤ 1000000 → x ≤ maxLen := fun x hx => by simp only [maxLen]; omega
  have m1 : m * 16 ≤ 140737488355328 := by omega
  have m2 : m ≤ maxLen := hmx m hsz
  have m3 : (m + 1) * 16 ≤ 140737488355328 := by omega
  have m4 : m + 1 ≤ maxLen := hmx _ (by omega)
  have m5 : (m * 2 + 2) / 2 = m + 1 := by omega
  have z1 : ∀ x : Nat, (0 : Int) ≤ (x : Int) := fun x => by omega
  have il := ivT_len
  have mt : ∀ (f : Nat → Nat × Nat) (k : Nat), (ivC f k).map T.d = ivT f k := fun f k => (ivT_ivC f k).symm
  have ik := ivT_kill
  obtain ⟨A, hA⟩ : ∃ A, augB a b m = A := ⟨_, rfl⟩
  have soS_eq : ∀ i, soS a ln m b m i = St.fn [(0, .d (rowsD a ln m)), (1, .d (.sl 2 (ivC b m))), (6, .d (intD m)), (7, .ptr 35 0), (8, .d (bD (fairR A (m + 1) i))), (36, .d (rowsD a ln m)), (37, .d (intD m)), (38, .d (intD i))] (HS A (m + 1) i (errQ none)) := fun i => by rw [← hA]; rfl
  refine dwp_loop_l (α := {i : Nat // i ≤ m ∧ ∀ j, j < i → ln j = m}) (fun i => soS a ln m b m i.1) (fun i => m - i.1) ⟨0, by omega, fun j hj => by omega⟩ ?_ (fun i => dwp_of (by kernel_rfl) ?_)
  · show Leads _ _ (soS a ln m b m 0)
    rw [soS_eq]
    have hd1 : ∀ k o, (fun k => if k = 35 then some (⟨none, [.d (.v (.slice none 0 0)), .d (.v .nilIface)]⟩ : Obj) else none) k = some o → ∀ c ∈ o.cells, ∀ k', c.ref = some k' → (fun k => if k = 35 then some (⟨none, [.d (.v (.slice none 0 0)), .d (.v .nilIface)]⟩ : Obj) else none) k' ≠ none := fun k o ho c hc k' hk' => by
      simp only at ho
      split at ho
      · cases ho
        simp only [List.mem_cons, List.not_mem_nil, or_false] at hc
        rcases hc with rfl | rfl <;> simp [T.ref] at hk'
      · cases ho
    refine Leads.trans (s' := St.fn [(0, .d (rowsD a ln m)), (1, .d (.sl 2 (ivC b m))), (6, .d (intD m)), (7, .ptr 35 0), (8, .d (bD true)), (36, .d (rowsD a ln m)), (37, .d (intD m)), (38, .d (intD 0))] (fun k => if k = 35 then some ⟨none, [.d (.v (.slice none 0 0)), .d (.v .nilIface)]⟩ else none)) (leads_weak (weak_fn ?_ ?_ ?_ hd1)) ?_
    · simp -implicitDefEqProofs only [go_sem, rowsD]
    · intro k' o ho
      by_cases hk : k' = 35
      · subst hk
        simp -implicitDefEqProofs only [go_sem] at ho ⊢
        exact ho
      · simp only [hk, if_false] at ho
        cases ho
    · intro p hp k' hk'
      simp only [List.mem_cons, List.not_mem_nil, or_false] at hp
      rcases hp with rfl | rfl | rfl | rfl | rfl | rfl | rfl | rfl <;> simp only [T.ref, Option.some.injEq, reduceCtorEq, rowsD] at hk'
      subst hk'; simp
    refine (leads_nilCell (k := 35) (i := 0) (k2 := 75) (cells := [.d (.v (.slice none 0 0)), .d (.v .nilIface)]) rfl rfl rfl 154 1).trans ((leads_hide (k := 35) (r := .gs 75) (e := .v .nilIface) rfl).trans (leads_weak (weak_fn ?_ ?_ ?_ (HS_deep A (m + 1) 0 _))))
    · simp -implicitDefEqProofs only [go_sem, St.new, rowsD, fairR]
    · intro k' o ho
      unfold HS at ho
      by_cases hk : k' = 35
      · subst hk
        simp only [if_true, Option.some.injEq] at ho
        subst ho
        simp -implicitDefEqProofs only [go_sem]
        rfl
      · by_cases hk2 : k' = 75
        · subst hk2
          rw [if_neg (by omega), if_pos rfl] at ho
          cases ho
          simp -implicitDefEqProofs only [go_sem, St.new, upd]
          rfl
        · rw [if_neg hk, if_neg hk2, if_neg (by omega)] at ho
          cases ho
    · intro p hp k' hk'
      simp only [List.mem_cons, List.not_mem_nil, or_false] at hp
      rcases hp with rfl | rfl | rfl | rfl | rfl | rfl | rfl | rfl <;> simp only [T.ref, Option.some.injEq, reduceCtorEq, rowsD] at hk'
      subst hk'; simp [HS]
  obtain ⟨i, hi, hln⟩ := i
  simp only
  rw [soS_eq]
  by_cases hB : i < m
  · have eD1 : decide ((i : Int) < (m : Int)) = true := tD (by omega)
    have gi : ((List.range m).map fun i => D.sl 2 (ivC (a i) (ln i)))[i]? = some (.sl 2 (ivC (a i) (ln i))) := by
      simp [List.getElem?_map, List.getElem?_range, hB]
    by_cases hli : ln i = m
    · have eL := tV (show ((m : Int) != (m : Int)) = false by simp)
      have hki : 1000 + i ≠ 55 := by omega
      have h35 : HS A (m + 1) i (errQ none) 35 = some ⟨none, [.gs 75, .hid (errQ none)]⟩ := rfl
      have h75 : HS A (m + 1) i (errQ none) 75 = some (rowsO kap i) := rfl
      have hfr : ∀ x, x ≠ 35 → x ≠ 75 → x < 1000 → HS A (m + 1) i (errQ none) x = none := fun x h1 h2 h3 => by
        unfold HS
        rw [if_neg h1, if_neg h2, if_neg (by omega)]
      have h49 := hfr 49 (by omega) (by omega) (by omega)
      have h54 := hfr 54 (by omega) (by omega) (by omega)
      have h55 := hfr 55 (by omega) (by omega) (by omega)
      have bi : i * 2 < m * 2 := by omega
      have bi2 : i * 2 + 2 ≤ m * 2 := by omega
      have tb := ivC_take b hB
      have ag := (ivT_aug a b m i).symm
      rw [hA] at ag
      have hsk : SzOk Tryz.prog := ⟨by kernel_rfl, by kernel_rfl⟩
      simp -implicitDefEqProofs only [go_sem, rowsD, eD1, hl, Nat.mul_one, hB, gi, hli, cl, d2, eL, z1]
      refine drawn_intro (by kernel_rfl) (by kernel_rfl) (by kernel_rfl) ?_
      simp -implicitDefEqProofs only [go_sem, hl, hB, cl, d2, z1, hli, m1, m2, m3, m4, m5, mt, il, h49, h54, h55, bi, bi2, tb, hsk, ag, ik, Nat.mul_div_cancel]
      rw [stop_eq]
      have gA : ∀ j, j < m + 1 → Gd (A i j) := fun j hj => by
        rw [← hA]
        unfold augB
        split
        · exact hgb i hB
        · exact hga i j hB (by omega)
      refine dwp_loop (α := {j : Nat // j ≤ m + 1}) (fun j => St.fn [(0, .d (rowsD a ln m)), (1, .d (.sl 2 (ivC b m))), (6, .d (intD m)), (7, .ptr 35 0), (8, .d (bD (fairR A (m + 1) i && fairs (A i) j.1))), (11, .gs 55), (36, .d (rowsD a ln m)), (37, .d (intD m)), (38, .d (intD i)), (56, .gs 55), (57, .d (intD ((m + 1 : Nat) : Int))), (58, .d (intD j.1))] (HI A (m + 1) i (errQ none))) (fun j => m + 1 - j.1) ⟨0, by omega⟩ (weak_fn ?_ ?_ ?_ (HI_deep A (m + 1) i _)) (by kernel_rfl) (fun j => ?_)
      · simp -implicitDefEqProofs only [go_sem, rowsD, fairs, Bool.and_true, m5, ag, ik, il, d2]
      · intro k' o ho
        unfold HI at ho
        by_cases hk : k' = 55
        · subst hk
          rw [upd_same] at ho
          simp -implicitDefEqProofs only [go_sem, ag, ik]
          exact ho
        · rw [upd_ne _ _ hk] at ho
          have k54 : (k' = 54) = False := by simp; rintro rfl; rw [h54] at ho; cases ho
          have k49 : (k' = 49) = False := by simp; rintro rfl; rw [h49] at ho; cases ho
          have hkk : (k' = 55) = False := by simp [hk]
          have hkill := HS_kill (k := 49) (by omega) (by omega) ho
          simp -implicitDefEqProofs only [go_sem, hkk, k54, k49, ho, hkill]
      · intro p hp k' hk'
        simp only [List.mem_cons, List.not_mem_nil, or_false] at hp
        rcases hp with rfl | rfl | rfl | rfl | rfl | rfl | rfl | rfl | rfl | rfl | rfl | rfl <;> simp only [T.ref, Option.some.injEq, reduceCtorEq, rowsD] at hk'
        · subst hk'; simp [HI, upd, HS]
        · subst hk'; simp [HI, upd]
        · subst hk'; simp [HI, upd]
      obtain ⟨j, hj⟩ := j
      simp only
      have i35 : HI A (m + 1) i (errQ none) 35 = some ⟨none, [.gs 75, .hid (errQ none)]⟩ := rfl
      have i75 : HI A (m + 1) i (errQ none) 75 = some (rowsO kap i) := rfl
      have i55 : HI A (m + 1) i (errQ none) 55 = some (rowO (A i) (m + 1)) := rfl
      have i13 : HI A (m + 1) i (errQ none) 13 = none := by unfold HI; rw [upd_ne _ _ (by omega)]; exact hfr 13 (by omega) (by omega) (by omega)
      have i74 : HI A (m + 1) i (errQ none) 74 = none := by unfold HI; rw [upd_ne _ _ (by omega)]; exact hfr 74 (by omega) (by omega) (by omega)
      by_cases hC : j < m + 1
      · have eE : decide ((j : Int) < ((m + 1 : Nat) : Int)) = true := tD (by omega)
        have j1 : j * 2 < (m + 1) * 2 := by omega
        have j2 : j * 2 + 2 ≤ (m + 1) * 2 := by omega
        have tj := ivT_take (A i) hC
        have w1 : IntKind.i64.wrap ((j : Int) + 1) = ((j + 1 : Nat) : Int) := addN1 (by omega)
        obtain ⟨j', hj'⟩ : ∃ j' : {j : Nat // j ≤ m + 1}, j'.1 = j + 1 := ⟨⟨j + 1, by omega⟩, rfl⟩
        have fin : ∀ {s : St}, s.t 0 = .d (rowsD a ln m) → s.t 1 = .d (.sl 2 (ivC b m)) → s.t 6 = .d (intD m) → s.t 7 = .ptr 35 0 → s.t 8 = .d (bD (fairR A (m + 1) i && fairs (A i) (j + 1))) → s.t 11 = .gs 55 → s.t 36 = .d (rowsD a ln m) → s.t 37 = .d (intD m) → s.t 38 = .d (intD i) → s.t 56 = .gs 55 → s.t 57 = .d (intD ((m + 1 : Nat) : Int)) → s.t 58 = .d (intD ((j + 1 : Nat) : Int)) →
            (∀ k' o, HI A (m + 1) i (errQ none) k' = some o → s.h k' = some o) →
            ∃ x : {j : Nat // j ≤ m + 1}, Weak s (St.fn [(0, .d (rowsD a ln m)), (1, .d (.sl 2 (ivC b m))), (6, .d (intD m)), (7, .ptr 35 0), (8, .d (bD (fairR A (m + 1) i && fairs (A i) x.1))), (11, .gs 55), (36, .d (rowsD a ln m)), (37, .d (intD m)), (38, .d (intD i)), (56, .gs 55), (57, .d (intD ((m + 1 : Nat) : Int))), (58, .d (intD x.1))] (HI A (m + 1) i (errQ none))) ∧ m + 1 - x.1 < m + 1 - j := fun t0 t1 t6 t7 t8 t11 t36 t37 t38 t56 t57 t58 th => by
          refine ⟨j', weak_fn ?_ th ?_ (HI_deep A (m + 1) i _), by omega⟩
          · simp only [allTW, hj', t0, t1, t6, t7, t8, t11, t36, t37, t38, t56, t57, t58, TW_self, and_self]
          · intro p hp k' hk'
            simp only [List.mem_cons, List.not_mem_nil, or_false] at hp
            rcases hp with rfl | rfl | rfl | rfl | rfl | rfl | rfl | rfl | rfl | rfl | rfl | rfl <;> simp only [T.ref, Option.some.injEq, reduceCtorEq, rowsD] at hk'
            · subst hk'; simp [HI, upd, HS]
            · subst hk'; simp [HI, upd]
            · subst hk'; simp [HI, upd]
        have hh : ∀ k' o, HI A (m + 1) i (errQ none) k' = some o → (k' = 13) = False := fun k' o ho => by
          simp; rintro rfl; rw [i13] at ho; cases ho
        obtain ⟨g, hg⟩ : ∃ g, (fairR A (m + 1) i && fairs (A i) j) = g := ⟨_, rfl⟩
        rw [hg]
        have hg2 : (fairR A (m + 1) i && fairs (A i) (j + 1)) = (g && fairB (A i j)) := by
          simp only [fairs]
          rw [← hg, Bool.and_assoc]
        rw [hg2] at fin
        cases g
        · simp -implicitDefEqProofs only [go_sem, rowsD, eE, i55, il, j1, j2, tj, i13, w1, z1]
          exact fin (by simp -implicitDefEqProofs only [go_sem, rowsD]) (by simp -implicitDefEqProofs only [go_sem]) (by simp -implicitDefEqProofs only [go_sem]) (by simp -implicitDefEqProofs only [go_sem]) (by simp -implicitDefEqProofs only [go_sem]) (by simp -implicitDefEqProofs only [go_sem]) (by simp -implicitDefEqProofs only [go_sem, rowsD]) (by simp -implicitDefEqProofs only [go_sem]) (by simp -implicitDefEqProofs only [go_sem]) (by simp -implicitDefEqProofs only [go_sem]) (by simp -implicitDefEqProofs only [go_sem]) (by simp -implicitDefEqProofs only [go_sem]) (fun k' o ho => by simp -implicitDefEqProofs only [go_sem, ho, hh k' o ho])
        · simp -implicitDefEqProofs only [go_sem, rowsD, eE, i55, il, j1, j2, tj, i13, w1, z1]
          refine Call.intro (fair_c _ (gA j hC)) ?_
          simp -implicitDefEqProofs only [go_sem, w1]
          exact fin (by simp -implicitDefEqProofs only [go_sem, rowsD]) (by simp -implicitDefEqProofs only [go_sem]) (by simp -implicitDefEqProofs only [go_sem]) (by simp -implicitDefEqProofs only [go_sem]) (by simp -implicitDefEqProofs only [go_sem]) (by simp -implicitDefEqProofs only [go_sem]) (by simp -implicitDefEqProofs only [go_sem, rowsD]) (by simp -implicitDefEqProofs only [go_sem]) (by simp -implicitDefEqProofs only [go_sem]) (by simp -implicitDefEqProofs only [go_sem]) (by simp -implicitDefEqProofs only [go_sem]) (by simp -implicitDefEqProofs only [go_sem]) (fun k' o ho => by simp -implicitDefEqProofs only [go_sem, ho, hh k' o ho])
      · have eE : decide ((j : Int) < ((m + 1 : Nat) : Int)) = false := fD (by omega)
        have hjn : j = m + 1 := by omega
        subst hjn
        have gl := gsT_len kap i
        have m6 : (i + 1) * 24 ≤ 140737488355328 := by omega
        have m7 : i + 1 ≤ maxLen := hmx _ (by omega)
        have gk : (gsT kap i ++ [T.gs 55]).map (killT 75) = gsT kap i ++ [.gs 55] := by
          rw [List.map_append, gsT_kill (fun x hx => by unfold kap; omega)]
          rfl
        have w1 : IntKind.i64.wrap ((i : Int) + 1) = ((i + 1 : Nat) : Int) := addN1 (by omega)
        simp -implicitDefEqProofs only [go_sem, rowsD, eE, i35, i75, i55, i74, gl, gk, m6, m7, Nat.div_one, w1]
        refine ⟨⟨i + 1, by omega, fun x hx => by
          rcases Nat.lt_or_ge x i with h | h
          · exact hln x h
          · have : x = i := by omega
            rw [this]; exact hli⟩, ?_, by simp only; omega⟩
        show Leads _ _ (soS a ln m b m (i + 1))
        rw [soS_eq]
        refine Leads.trans (s' := St.fn [(0, .d (rowsD a ln m)), (1, .d (.sl 2 (ivC b m))), (6, .d (intD m)), (7, .ptr 35 0), (8, .d (bD (fairR A (m + 1) (i + 1)))), (36, .d (rowsD a ln m)), (37, .d (intD m)), (38, .d (intD ((i + 1 : Nat) : Int)))] (HJ A (m + 1) i (errQ none))) (leads_weak (weak_fn ?_ ?_ ?_ (HJ_deep A (m + 1) i _))) ?_
        · simp -implicitDefEqProofs only [go_sem, rowsD, fairR]
        · intro k' o ho
          unfold HJ at ho
          by_cases q1 : k' = 75
          · subst q1
            rw [upd_same] at ho
            simp -implicitDefEqProofs only [go_sem, gk]
            exact ho
          · rw [upd_ne _ _ q1] at ho
            have q1' : (k' = 75) = False := by simp [q1]
            have q2 : (k' = 74) = False := by simp; rintro rfl; rw [i74] at ho; cases ho
            by_cases q3 : k' = 35
            · subst q3
              rw [i35] at ho
              simp -implicitDefEqProofs only [go_sem]
              exact ho
            · have q3' : (k' = 35) = False := by simp [q3]
              by_cases q4 : k' = 55
              · subst q4
                rw [i55] at ho
                simp -implicitDefEqProofs only [go_sem, i55, ik]
                exact ho
              · unfold HI at ho
                rw [upd_ne _ _ q4] at ho
                have ho2 : HI A (m + 1) i (errQ none) k' = some o := by unfold HI; rw [upd_ne _ _ q4]; exact ho
                have hkill : ({ vec := o.vec, cells := o.cells.map (killT 75) } : Obj) = o := by
                  unfold HS at ho
                  rw [if_neg q3, if_neg q1] at ho
                  split at ho
                  · cases ho; rw [ivT_kill]
                  · cases ho
                simp -implicitDefEqProofs only [go_sem, q1', q2, q3', ho2, hkill]
        · intro p hp k' hk'
          simp only [List.mem_cons, List.not_mem_nil, or_false] at hp
          rcases hp with rfl | rfl | rfl | rfl | rfl | rfl | rfl | rfl <;> simp only [T.ref, Option.some.injEq, reduceCtorEq, rowsD] at hk'
          subst hk'; simp [HJ, HI, upd, HS]
        have hf2 : HJ A (m + 1) i (errQ none) (1000 + i) = none := by
          unfold HJ HI
          rw [upd_ne _ _ (by omega), upd_ne _ _ (by omega)]
          unfold HS
          rw [if_neg (by omega), if_neg (by omega), if_neg (by omega)]
        refine (leads_ren 55 (1000 + i) hf2).trans (leads_weak (weak_fn ?_ ?_ ?_ (HS_deep A (m + 1) (i + 1) _)))
        · simp -implicitDefEqProofs only [go_sem, rowsD, renT]
        · intro k' o ho
          rw [ren_h]
          simp only [fn_h]
          unfold HS at ho
          by_cases q1 : k' = 35
          · subst q1
            rw [if_pos rfl] at ho
            cases ho
            rw [if_neg (by omega), if_neg (by omega)]
            rfl
          · rw [if_neg q1] at ho
            by_cases q2 : k' = 75
            · subst q2
              rw [if_pos rfl] at ho
              cases ho
              rw [if_neg (by omega), if_neg (by omega)]
              simp only [HJ, upd_same, Option.map_some, Obj.ren, List.map_append, List.map_cons, List.map_nil, renT, if_true]
              rw [gsT_ren (fun x hx => by unfold kap; omega)]
              simp only [rowsO]
              rw [gsT_succ]
            · rw [if_neg q2] at ho
              split at ho
              · rename_i hr
                cases ho
                by_cases q3 : k' = 1000 + i
                · subst q3
                  rw [if_pos rfl]
                  simp only [HJ, upd_ne _ _ (show (55 : Nat) ≠ 75 by omega), HI, upd_same, Option.map_some, Obj.ren, ivT_ren]
                  rw [show 1000 + i - 1000 = i by omega]
                · rw [if_neg q3, if_neg (by omega)]
                  unfold HJ HI
                  rw [upd_ne _ _ q2, upd_ne _ _ (show k' ≠ 55 by omega)]
                  unfold HS
                  rw [if_neg q1, if_neg q2, if_pos (by omega)]
                  simp only [Option.map_some, Obj.ren, ivT_ren]
              · cases ho
        · intro p hp k' hk'
          simp only [List.mem_cons, List.not_mem_nil, or_false] at hp
          rcases hp with rfl | rfl | rfl | rfl | rfl | rfl | rfl | rfl <;> simp only [T.ref, Option.some.injEq, reduceCtorEq, rowsD] at hk'
          subst hk'; simp [HS]
    · have hr : solR M V S q a ln m b m = .data (.tup [.v (.slice none 0 0), eD q 7]) := by
        unfold solR
        rw [if_pos (by right; right; right; intro h; exact hli (h i hB))]
      rw [hr]
      have eL := tB (show ((ln i : Int) != (m : Int)) = true from bne_iff_ne.2 (by omega))
      simp -implicitDefEqProofs only [go_sem, rowsD, eD1, hl, Nat.mul_one, hB, gi, cl, d2, eL, z1]
      refine drawn_intro (by kernel_rfl) (by kernel_rfl) (by kernel_rfl) ?_
      simp -implicitDefEqProofs only [go_sem, e7, errV]
      refine fin_many ?_
      simp -implicitDefEqProofs only [go_sem, errV]
  · have eD1 : decide ((i : Int) < (m : Int)) = false := fD (by omega)
    have hin : i = m := by omega
    subst hin
    have hall : ∀ j, j < i → ln j = i := hln
    cases hf : fairR A (i + 1) i
    · have hr : solR M V S q a ln i b i = .data (.tup [.v (.slice none 0 0), eD q 2]) := by
        unfold solR
        rw [if_neg (by
          rintro (h | h | h | h)
          · omega
          · omega
          · exact h rfl
          · exact h hall), hA, if_pos hf]
      rw [hr]
      simp -implicitDefEqProofs only [go_sem, eD1, hf]
      refine drawn_intro (by kernel_rfl) (by kernel_rfl) (by kernel_rfl) ?_
      simp -implicitDefEqProofs only [go_sem, e2, errV]
      refine fin_many ?_
      simp -implicitDefEqProofs only [go_sem, errV]
    · have hr : solR M V S q a ln i b i = (match solS M V S A i with
          | none => .data (.tup [.v (.slice none 0 0), eD q 8])
          | some out => .ownP 59 2 false (ivC out i) (.v .nilIface)) := by
        unfold solR
        rw [if_neg (by
          rintro (h | h | h | h)
          · omega
          · omega
          · exact h rfl
          · exact h hall), hA, if_neg (by rw [hf]; simp)]
      rw [hr]
      simp -implicitDefEqProofs only [go_sem, eD1, hf]
      obtain ⟨L, hL⟩ : ∃ L : List (Nat × T), L = [(6, .d (intD i)), (7, .ptr 35 0), (82, .d (intD i))] := ⟨_, rfl⟩
      have hgA : ∀ x y, x < i → y ≤ i → Gd (A x y) := fun x y hx hy => by
        rw [← hA]
        unfold augB
        split
        · exact hgb x hx
        · exact hga x y hx (by rw [hall x hx]; omega)
      have fo : ∀ {H : Nat → Option Obj} {s : St} (k : Nat), s.t 6 = .d (intD i) → s.t 7 = .ptr 35 0 → s.t 82 = .d (intD i) → s.t 83 = .d (intD k) → H 35 ≠ none → (∀ k o, H k = some o → ∀ c ∈ o.cells, ∀ k', c.ref = some k' → H k' ≠ none) → (∀ k' o, H k' = some o → s.h k' = some o) →
          Weak s (St.fn [(6, .d (intD i)), (7, .ptr 35 0), (82, .d (intD i)), (83, .d (intD k))] H) := fun k t6 t7 t82 t83 h35 hdp hh => by
        refine weak_fn ?_ hh ?_ hdp
        · simp only [allTW, t6, t7, t82, t83, TW_self, and_self]
        · intro p hp k' hk'
          simp only [List.mem_cons, List.not_mem_nil, or_false] at hp
          rcases hp with rfl | rfl | rfl | rfl <;> simp only [T.ref, Option.some.injEq, reduceCtorEq] at hk'
          subst hk'; exact h35
      refine dwp_loop (α := SoI M V S A i) (fun x => St.fn [(6, .d (intD i)), (7, .ptr 35 0), (82, .d (intD i)), (83, .d (intD x.k))] x.H) (fun x => i - x.k) ⟨0, kap, HS A (i + 1) i (errQ none), A, by omega, rfl, HS_sys A i _, HS_deep A _ _ _, fun k' h => HS_live h⟩ (fo 0 ?_ ?_ ?_ ?_ ?_ (HS_deep A _ _ _) ?_) (by kernel_rfl) (fun x => ?_)
      · simp -implicitDefEqProofs only [go_sem]
      · simp -implicitDefEqProofs only [go_sem]
      · simp -implicitDefEqProofs only [go_sem]
      · simp -implicitDefEqProofs only [go_sem]
      · simp [HS]
      · intro k' o ho
        simp -implicitDefEqProofs only [go_sem]
        exact ho
      obtain ⟨k, κ, H, B, hk, he, hs, hd, hlv⟩ := x
      simp only
      have gB := elimS_gd O hgA k hk B he
      by_cases hki : k < i
      · have eE : decide ((k : Int) < (i : Int)) = true := tD (by omega)
        have w1 : IntKind.i64.wrap ((k : Int) + 1) = ((k + 1 : Nat) : Int) := addN1 (by omega)
        have hat := pvS_at B i k (i - k)
        simp -implicitDefEqProofs only [go_sem, eE]
        refine CallP.intro (pivot_c' hs hn4 hki gB hd rfl rfl rfl) ?_
        rcases hat with h | ⟨x, hx1, hx2, hx3⟩
        · have hes : elimS M V S A i (k + 1) = none := by
            simp only [elimS, he, h]
            rfl
          have hso := solS_none (by omega) hes
          rw [hso]
          have e7' : decide ((0 : Int) ≤ -1) = false := by decide
          simp -implicitDefEqProofs only [go_sem, h, e7']
          refine drawn_intro (by kernel_rfl) (by kernel_rfl) (by kernel_rfl) ?_
          simp -implicitDefEqProofs only [go_sem, e8, errV]
          refine fin_many ?_
          simp -implicitDefEqProofs only [go_sem, errV]
        · have e7' : decide ((0 : Int) ≤ (x : Int)) = true := tD (by omega)
          have hxi : x < i := by omega
          have Z := pvH_sys hs hki hxi
          have Zd := pvH_deep hs hki hxi hd
          have gS := swp_gd gB hki hxi
          simp -implicitDefEqProofs only [go_sem, hx3, e7']
          refine CallP.intro (clear_c' O Z hn4 hki gS Zd rfl rfl rfl) ?_
          have Y := HM_sys (B := (rowS M V S (swp B k x) i k (i - 1 - k)).1) (e := errQ (rowS M V S (swp B k x) i k (i - 1 - k)).2) Z
          have Yd := HM_deep (B := (rowS M V S (swp B k x) i k (i - 1 - k)).1) (e := errQ (rowS M V S (swp B k x) i k (i - 1 - k)).2) Z Zd
          have Y35 := Y.s
          have hcl : clH M V S (pvH H 75 κ i k (x : Int)) 35 75 (swp κ k x) i (swp B k x) k = HM (pvH H 75 κ i k (x : Int)) 35 75 (swp κ k x) i (rowS M V S (swp B k x) i k (i - 1 - k)).1 (errQ (rowS M V S (swp B k x) i k (i - 1 - k)).2) := rfl
          have hlive : ∀ k', HM (pvH H 75 κ i k (x : Int)) 35 75 (swp κ k x) i (rowS M V S (swp B k x) i k (i - 1 - k)).1 (errQ (rowS M V S (swp B k x) i k (i - 1 - k)).2) k' ≠ none → k' = 35 ∨ k' = 75 ∨ 1000 ≤ k' := fun k' h => hlv k' (pvH_live (by rw [hs.r]; simp) ((HM_live Z).1 h))
          obtain ⟨N, hN⟩ : ∃ N, HM (pvH H 75 κ i k (x : Int)) 35 75 (swp κ k x) i (rowS M V S (swp B k x) i k (i - 1 - k)).1 (errQ (rowS M V S (swp B k x) i k (i - 1 - k)).2) = N := ⟨_, rfl⟩
          rw [hN] at hcl Y Yd Y35 hlive
          rw [hcl]
          have hel : elimS M V S A i (k + 1) = match (rowS M V S (swp B k x) i k (i - 1 - k)).2 with
              | some _ => none
              | none => some (rowS M V S (swp B k x) i k (i - 1 - k)).1 := by
            simp only [elimS, he, hx3, Int.toNat_natCast]
            rw [if_neg (by omega)]
          cases hR : (rowS M V S (swp B k x) i k (i - 1 - k)).2 with
          | some p =>
            rw [hR] at hel Y35
            have hso := solS_none (by omega) hel
            rw [hso]
            have hn : (errQ (some p)) = opE p.1 p.2 := rfl
            simp -implicitDefEqProofs only [go_sem, Y35, hn]
            refine drawn_intro (by kernel_rfl) (by kernel_rfl) (by kernel_rfl) ?_
            simp -implicitDefEqProofs only [go_sem, e8, errV]
            refine fin_many ?_
            simp -implicitDefEqProofs only [go_sem, errV]
          | none =>
            rw [hR] at hel Y35 Y
            have hn : (errQ (none : Option (ByteArray × D))) = .v .nilIface := rfl
            simp -implicitDefEqProofs only [go_sem, Y35, hn, w1]
            refine ⟨⟨k + 1, swp κ k x, _, _, by omega, hel, Y, Yd, hlive⟩, fo (k + 1) ?_ ?_ ?_ ?_ ?_ Yd ?_, by simp only; omega⟩
            · simp -implicitDefEqProofs only [go_sem]
            · simp -implicitDefEqProofs only [go_sem]
            · simp -implicitDefEqProofs only [go_sem]
            · simp -implicitDefEqProofs only [go_sem]
            · show N 35 ≠ none
              rw [Y35]; simp
            · intro k' o ho
              simp -implicitDefEqProofs only [go_sem]
              exact ho
      · have eE : decide ((k : Int) < (i : Int)) = false := fD (by omega)
        obtain rfl : k = i := by omega
        simp -implicitDefEqProofs only [go_sem, eE]
        have hlz : ∀ x, x < 1000 → x ≠ 35 → x ≠ 75 → H x = none := fun x h1 h2 h3 => Decidable.byContradiction fun h => by have := hlv x h; omega
        have hκ : ∀ x, x < k → 1000 ≤ κ x := fun x hx => by
          have h1 := hlv (κ x) (by rw [hs.row x hx]; simp)
          have h2 := hs.ne2 hx
          have h3 := hs.ne3 hx
          omega
        have kz : ∀ x d, x < k → d < 1000 → (κ x = d) = False := fun x d hx hd => by have := hκ x hx; simp; omega
        have kz' : ∀ x d, x < k → d < 1000 → (d = κ x) = False := fun x d hx hd => by have := hκ x hx; simp; omega
        have h102 := hlz 102 (by omega) (by omega) (by omega)
        have h17 := hlz 17 (by omega) (by omega) (by omega)
        have mk1 : k * 16 ≤ 281474976710656 := by omega
        have wn : IntKind.i64.wrap ((k : Int) - 1) = (k : Int) - 1 := w64 (by omega)
        simp -implicitDefEqProofs only [go_sem, h102, mk1, m2, z1, Int.toNat_natCast, wn]
        rw [stop_eq]
        obtain ⟨bk, hbk⟩ : ∃ bk, bkS M V S B k = bk := ⟨_, rfl⟩
        have gbk : ∀ m, m ≤ k → ∀ j, Gd ((bk m).1 j) := by rw [← hbk]; exact bkS_gd O gB
        have bk0 : bk 0 = (fun _ => (0, 0), none) := by rw [← hbk]; rfl
        have hsol : solS M V S A k = match (bk k).2 with
            | some _ => none
            | none => some (bk k).1 := by
          unfold solS
          rw [he]
          simp only
          rw [hbk]
        rw [hsol]
        have fo2 : ∀ {s : St} (m : Nat), s.t 6 = .d (intD k) → s.t 7 = .ptr 35 0 → s.t 15 = .gs 102 → s.t 16 = .d (intD ((k : Int) - 1 - m)) → (∀ k' o, HB H κ k B (errQ (bk m).2) (bk m).1 k' = some o → s.h k' = some o) →
            Weak s (St.fn [(6, .d (intD k)), (7, .ptr 35 0), (15, .gs 102), (16, .d (intD ((k : Int) - 1 - m)))] (HB H κ k B (errQ (bk m).2) (bk m).1)) := fun m t6 t7 t15 t16 hh => by
          refine weak_fn ?_ hh ?_ (HB_deep hs hd)
          · simp only [allTW, t6, t7, t15, t16, TW_self, and_self]
          · intro p hp k' hk'
            simp only [List.mem_cons, List.not_mem_nil, or_false] at hp
            rcases hp with rfl | rfl | rfl | rfl <;> simp only [T.ref, Option.some.injEq, reduceCtorEq] at hk'
            · subst hk'; rw [HB_35]; simp
            · subst hk'; rw [HB_102]; simp
        refine dwp_loop (α := {m : Nat // m ≤ k}) (fun m => St.fn [(6, .d (intD k)), (7, .ptr 35 0), (15, .gs 102), (16, .d (intD ((k : Int) - 1 - m.1)))] (HB H κ k B (errQ (bk m.1).2) (bk m.1).1)) (fun m => k - m.1) ⟨0, by omega⟩ (fo2 0 ?_ ?_ ?_ ?_ ?_) (by kernel_rfl) (fun m => ?_)
        · simp -implicitDefEqProofs only [go_sem]
        · simp -implicitDefEqProofs only [go_sem]
        · simp -implicitDefEqProofs only [go_sem]
        · simp -implicitDefEqProofs only [go_sem, wn]
          rw [show (k : Int) - 1 - 0 = (k : Int) - 1 by omega]
        · intro k' o ho
          rw [bk0] at ho
          unfold HB at ho
          by_cases q1 : k' = 102
          · subst q1
            rw [upd_same] at ho
            simp -implicitDefEqProofs only [go_sem]
            exact ho
          · rw [upd_ne _ _ q1] at ho
            have q1' : (k' = 102) = False := by simp [q1]
            simp -implicitDefEqProofs only [go_sem, q1']
            rw [← ho]
            have := congrFun (HM_self hs) k'
            exact this.symm
        obtain ⟨m, hm⟩ := m
        simp only
        obtain ⟨out, ho⟩ : ∃ out, (bk m).1 = out := ⟨_, rfl⟩
        obtain ⟨eo, heo⟩ : ∃ eo, (bk m).2 = eo := ⟨_, rfl⟩
        have gout := gbk m hm
        rw [ho] at gout
        rw [ho, heo]
        have c35 := HB_35 (H := H) (κ := κ) (n := k) (B := B) (e := errQ eo) (out := out)
        have c75 := HB_75 (B := B) (e := errQ eo) (out := out) hs
        have c102 := HB_102 (H := H) (κ := κ) (n := k) (B := B) (e := errQ eo) (out := out)
        have c17 : HB H κ k B (errQ eo) out 17 = none := HB_none hs (by omega) h17
        have gl := gsT_len κ k
        by_cases hmk : m < k
        · obtain ⟨r, hr0⟩ : ∃ r, k - 1 - m = r := ⟨_, rfl⟩
          have hrk : r < k := by omega
          have hri : (k : Int) - 1 - m = (r : Int) := by omega
          rw [hri]
          have eG : decide ((r : Int) ≥ 0) = true := tD (by omega)
          have crow := HB_row (B := B) (e := errQ eo) (out := out) hs hrk (by have := hκ r hrk; omega)
          have ggr := gsT_get κ hrk
          have rl : (ivT (B r) (k + 1)).length = (k + 1) * 2 := ivT_len _ _
          have q1 : k * 2 < (k + 1) * 2 := by omega
          have q2 : k * 2 + 2 ≤ (k + 1) * 2 := by omega
          have tk := ivT_take (B r) (show k < k + 1 by omega)
          have w1 : IntKind.i64.wrap ((r : Int) + 1) = ((r + 1 : Nat) : Int) := addN1 (by omega)
          simp -implicitDefEqProofs only [go_sem, eG, c35, c75, gl, hrk, ggr, crow, rl, q1, q2, tk, c17, w1, z1, Nat.mul_one]
          rw [stop_eq]
          obtain ⟨W, hW⟩ : ∃ W, bkT M S B out k r eo = W := ⟨_, rfl⟩
          have T0 : W 0 = (B r k, eo) := by rw [← hW]; rfl
          have gT : ∀ j, r + j < k → Gd (W j).1 := by rw [← hW]; exact fun j hj => bkT_gd O gB gout hrk j hj
          refine dwp_loop (α := {j : Nat // j ≤ m}) (fun j => St.fn [(6, .d (intD k)), (7, .ptr 35 0), (15, .gs 102), (16, .d (intD r)), (17, .ptr 17 0), (18, .d (intD ((r + 1 + j.1 : Nat) : Int)))] (HC H κ k B (errQ (W j.1).2) out (W j.1).1)) (fun j => m - j.1) ⟨0, by omega⟩ (weak_fn ?_ ?_ ?_ (HC_deep hs hd)) (by kernel_rfl) (fun j => ?_)
          · simp -implicitDefEqProofs only [go_sem, w1]
          · intro k' o ho
            rw [T0] at ho
            by_cases q1 : k' = 17
            · subst q1
              rw [HC_17] at ho
              simp -implicitDefEqProofs only [go_sem]
              exact ho
            · rw [HC_ne q1] at ho
              have q1' : (k' = 17) = False := by simp [q1]
              simp -implicitDefEqProofs only [go_sem, q1']
              exact ho
          · intro p hp k' hk'
            simp only [List.mem_cons, List.not_mem_nil, or_false] at hp
            rcases hp with rfl | rfl | rfl | rfl | rfl | rfl <;> simp only [T.ref, Option.some.injEq, reduceCtorEq] at hk'
            · subst hk'; rw [HC_ne (by omega), HB_35]; simp
            · subst hk'; rw [HC_ne (by omega), HB_102]; simp
            · subst hk'; rw [HC_17]; simp
          obtain ⟨j, hj⟩ := j
          simp only
          have gTj := gT j (by omega)
          obtain ⟨v, hv⟩ : ∃ v, (W j).1 = v := ⟨_, rfl⟩
          obtain ⟨ej, hej⟩ : ∃ ej, (W j).2 = ej := ⟨_, rfl⟩
          rw [hv] at gTj
          rw [hv, hej]
          obtain ⟨HX, hHX⟩ : ∃ HX, HC H κ k B (errQ ej) out v = HX := ⟨_, rfl⟩
          have a35 : HX 35 = some ⟨none, [.gs 75, .hid (errQ ej)]⟩ := by rw [← hHX, HC_ne (by omega), HB_35]
          have a75 : HX 75 = some (rowsO κ k) := by rw [← hHX, HC_ne (by omega), HB_75 hs]
          have a102 : HX 102 = some ⟨some (59, 2, false), ivT out k⟩ := by rw [← hHX, HC_ne (by omega), HB_102]
          have a17 : HX 17 = some ⟨none, [.d (flD v.1), .d (flD v.2)]⟩ := by rw [← hHX, HC_17]
          have arow : HX (κ r) = some (rowO (B r) (k + 1)) := by
            have := hκ r hrk
            rw [← hHX, HC_ne (by omega), HB_row hs hrk (by omega)]
          have z1' := kz r 35 hrk (by omega)
          have z2' := kz r 102 hrk (by omega)
          have z3' := kz r 17 hrk (by omega)
          have z4' := kz' r 35 hrk (by omega)
          have z5' := kz' r 102 hrk (by omega)
          have z6' := kz' r 17 hrk (by omega)
          have ol : (ivT out k).length = k * 2 := ivT_len _ _
          have hDo := do_ok E
          rw [hHX]
          by_cases hjm : j < m
          · obtain ⟨x, hx⟩ : ∃ x, r + 1 + j = x := ⟨_, rfl⟩
            rw [hx]
            have hxk : x < k := by omega
            have eH : decide ((x : Int) < (k : Int)) = true := tD (by omega)
            have q3 : x * 2 < (k + 1) * 2 := by omega
            have q4 : x * 2 + 2 ≤ (k + 1) * 2 := by omega
            have q5 : x * 2 < k * 2 := by omega
            have q6 : x * 2 + 2 ≤ k * 2 := by omega
            have t1 := ivT_take (B r) (show x < k + 1 by omega)
            have t2 := ivT_take out hxk
            simp -implicitDefEqProofs only [go_sem, eH]
            refine drawn_intro (by kernel_rfl) (by kernel_rfl) (by kernel_rfl) ?_
            simp -implicitDefEqProofs only [go_sem, a35, a75, a102, a17, arow, gl, ggr, hrk, rl, ol, q3, q4, q5, q6, t1, t2, z1, Nat.mul_one]
            refine Call.intro (O.m _ _ (gB r x hrk (by omega)) (gout x)).1 ?_
            obtain ⟨mm, hmm⟩ : ∃ mm, M (B r x) (out x) = mm := ⟨_, rfl⟩
            have gm : Gd mm.1 := by rw [← hmm]; exact O.gm (gB r x hrk (by omega)) (gout x)
            rw [hmm]
            simp -implicitDefEqProofs only [go_sem, a35, hDo, isErrD_errQ, doE_errQ]
            refine Call.intro (O.s _ _ gTj gm).1 ?_
            obtain ⟨ss, hss⟩ : ∃ ss, S v mm.1 = ss := ⟨_, rfl⟩
            rw [hss]
            obtain ⟨e2', he2⟩ : ∃ e2, ors (ors ej mm.2) ss.2 = e2 := ⟨_, rfl⟩
            have hW1 : W (j + 1) = (ss.1, e2') := by
              rw [← hW]
              simp only [bkT]
              rw [hW, hv, hej, hx, hmm, hss, he2]
            have hx1 : IntKind.i64.wrap ((x : Int) + 1) = ((x + 1 : Nat) : Int) := addN1 (by omega)
            obtain ⟨j', hj'⟩ : ∃ j' : {j : Nat // j ≤ m}, j'.1 = j + 1 := ⟨⟨j + 1, by omega⟩, rfl⟩
            simp -implicitDefEqProofs only [go_sem, a35, a17, hDo, isErrD_errQ, doE_errQ, he2, hx1]
            refine ⟨j', weak_fn ?_ ?_ ?_ (HC_deep hs hd), by omega⟩
            · have : r + 1 + j'.1 = x + 1 := by omega
              simp -implicitDefEqProofs only [go_sem, this]
            · intro k' o ho
              rw [hj', hW1] at ho
              by_cases p1 : k' = 17
              · subst p1
                rw [HC_17] at ho
                simp -implicitDefEqProofs only [go_sem]
                exact ho
              · have p1' : (k' = 17) = False := by simp [p1]
                rw [HC_ne p1] at ho
                by_cases p2 : k' = 35
                · subst p2
                  rw [HB_35] at ho
                  simp -implicitDefEqProofs only [go_sem, he2]
                  exact ho
                · have p2' : (k' = 35) = False := by simp [p2]
                  have : HX k' = some o := by
                    rw [← hHX, HC_ne p1, ← ho]
                    unfold HB
                    by_cases p3 : k' = 102
                    · rw [p3, upd_same, upd_same]
                    · rw [upd_ne _ _ p3, upd_ne _ _ p3]
                      unfold HM
                      rw [if_neg p2, if_neg p2]
                  simp -implicitDefEqProofs only [go_sem, p1', p2', this]
            · intro p hp k' hk'
              simp only [List.mem_cons, List.not_mem_nil, or_false] at hp
              rcases hp with rfl | rfl | rfl | rfl | rfl | rfl <;> simp only [T.ref, Option.some.injEq, reduceCtorEq] at hk'
              · subst hk'; rw [HC_ne (by omega), HB_35]; simp
              · subst hk'; rw [HC_ne (by omega), HB_102]; simp
              · subst hk'; rw [HC_17]; simp
          · have hjm : j = m := by omega
            subst hjm
            have hxk : r + 1 + j = k := by omega
            rw [hxk]
            have eH : decide ((k : Int) < (k : Int)) = false := fD (by omega)
            have q3 : r * 2 < (k + 1) * 2 := by omega
            have q4 : r * 2 + 2 ≤ (k + 1) * 2 := by omega
            have q5 : r * 2 < k * 2 := by omega
            have q6 : r * 2 + 2 ≤ k * 2 := by omega
            have t1 := ivT_take (B r) (show r < k + 1 by omega)
            simp -implicitDefEqProofs only [go_sem, eH]
            refine drawn_intro (by kernel_rfl) (by kernel_rfl) (by kernel_rfl) ?_
            simp -implicitDefEqProofs only [go_sem, a35, a75, a102, a17, arow, gl, ggr, hrk, rl, ol, q3, q4, q5, q6, t1, z1, Nat.mul_one]
            have grr := gB r r hrk (by omega)
            refine Call.intro (O.v _ _ gTj grr).1 ?_
            obtain ⟨ss, hss⟩ : ∃ ss, V v (B r r) = ss := ⟨_, rfl⟩
            rw [hss]
            obtain ⟨e2', he2⟩ : ∃ e2, ors ej ss.2 = e2 := ⟨_, rfl⟩
            have hst := ivT_set out ss.1 k r hrk
            have hbk1 : bk (j + 1) = (upd out r ss.1, e2') := by
              rw [← hbk]
              simp only [bkS]
              rw [hbk, ho, heo, hr0, hW, hv, hej, hss, he2]
            have wr : IntKind.i64.wrap ((r : Int) - 1) = (r : Int) - 1 := w64 (by omega)
            obtain ⟨j', hj'⟩ : ∃ j' : {m : Nat // m ≤ k}, j'.1 = j + 1 := ⟨⟨j + 1, by omega⟩, rfl⟩
            simp -implicitDefEqProofs only [go_sem, a35, a75, a102, a17, arow, hDo, isErrD_errQ, doE_errQ, he2, ol, q5, q6, hst, wr, z1]
            refine ⟨j', fo2 j'.1 ?_ ?_ ?_ ?_ ?_, by omega⟩
            · simp -implicitDefEqProofs only [go_sem]
            · simp -implicitDefEqProofs only [go_sem]
            · simp -implicitDefEqProofs only [go_sem]
            · simp -implicitDefEqProofs only [go_sem, wr]
              rw [show (k : Int) - 1 - (j'.1 : Int) = (r : Int) - 1 by omega]
            · intro k' o ho
              rw [hj', hbk1] at ho
              by_cases p1 : k' = 102
              · subst p1
                rw [HB_102] at ho
                simp -implicitDefEqProofs only [go_sem, hst]
                exact ho
              · have p1' : (k' = 102) = False := by simp [p1]
                by_cases p2 : k' = 35
                · subst p2
                  rw [HB_35] at ho
                  simp -implicitDefEqProofs only [go_sem, he2]
                  exact ho
                · have p2' : (k' = 35) = False := by simp [p2]
                  have : HX k' = some o := by
                    by_cases p3 : k' = 17
                    · subst p3
                      rw [HB_none hs (by omega) h17] at ho
                      cases ho
                    rw [← hHX, HC_ne p3, ← ho]
                    exact HB_same p1 p2
                  simp -implicitDefEqProofs only [go_sem, p1', p2', this]
        · have hmk : m = k := by omega
          subst hmk
          obtain ⟨HX, hHX⟩ : ∃ HX, HB H κ m B (errQ eo) out = HX := ⟨_, rfl⟩
          rw [hHX] at c35 c102 ⊢
          have eG : decide ((m : Int) - 1 - m ≥ 0) = false := fD (by omega)
          cases eo with
          | some p =>
            rw [heo]
            have hn : (errQ (some p)) = opE p.1 p.2 := rfl
            simp -implicitDefEqProofs only [go_sem, eG, c35, hn]
            refine drawn_intro (by kernel_rfl) (by kernel_rfl) (by kernel_rfl) ?_
            simp -implicitDefEqProofs only [go_sem, e8, errV]
            refine fin_many ?_
            simp -implicitDefEqProofs only [go_sem, errV]
          | none =>
            rw [heo, ho]
            have hn : (errQ (none : Option (ByteArray × D))) = .v .nilIface := rfl
            have hmt := mt out m
            simp -implicitDefEqProofs only [go_sem, eG, c35, hn]
            exact ⟨102, rfl, by simp -implicitDefEqProofs only [go_sem, hmt]; exact c102⟩
end
end Go.Enc
