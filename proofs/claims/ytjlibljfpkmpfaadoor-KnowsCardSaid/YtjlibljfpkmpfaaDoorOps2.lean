/-
  Addresses, slices, lengths, parts: what they yield, as data.
-/
import Derived.Test.YtjlibljfpkmpfaaDoorOps
namespace Go.Enc
open Go.RowKit

def fieldT (P : Program) (t : TypeId) (f : Nat) : T → Option T
  | .ptr k off => (fldT P t f).map fun o => .ptr k (off + o)
  | .d (.pd cells off) => (fldT P t f).map fun o => .d (.pd cells (off + o))
  | _ => none

def indexT (P : Program) (h : Nat → Option Obj) (t : TypeId) : T → T → Option T
  | .d (.sl esz cells), .d (.v (.int _ i)) => match elT P t with
    | some n => if n = esz ∧ 0 ≤ i ∧ i.toNat * esz < cells.length then some (.d (.pd cells (i.toNat * esz))) else none
    | none => none
  | .gs k, .d (.v (.int _ i)) => match elT P t, h k with
    | some n, some ⟨some (_, esz, _), cells⟩ => if n = esz ∧ 0 ≤ i ∧ i.toNat * esz < cells.length then some (.ptr k (i.toNat * esz)) else none
    | _, _ => none
  | _, _ => none

def lenT (P : Program) (h : Nat → Option Obj) (t : TypeId) : T → Option T
  | .d (.sl esz cells) => match elT P t with
    | some n => if n = esz then some (.d (.v (.int .i64 (cells.length / esz : Nat)))) else none
    | none => none
  | .d (.v (.slice none 0 0)) => match elT P t with
    | some _ => some (.d (.v (.int .i64 0)))
    | none => none
  | .gs k => match elT P t, h k with
    | some n, some ⟨some (_, esz, _), cells⟩ => if n = esz then some (.d (.v (.int .i64 (cells.length / esz : Nat)))) else none
    | _, _ => none
  | _ => none

def boundT (dflt : Int) : Option T → Option Int
  | none => some dflt
  | some (.d (.v (.int _ i))) => some i
  | _ => none

def sliceT (P : Program) (t : TypeId) (lo hi mx : Option T) : T → Option T
  | .d (.sl esz cells) => match elT P t, boundT 0 lo, boundT (cells.length / esz : Nat) hi, mx with
    | some n, some l, some h, none => if n = esz ∧ 0 ≤ l ∧ l ≤ h ∧ h.toNat * esz ≤ cells.length then some (.d (.sl esz ((cells.drop (l.toNat * esz)).take ((h.toNat - l.toNat) * esz)))) else none
    | _, _, _, _ => none
  | _ => none

def extractT (i : Nat) : T → Option T
  | .d (.tup ds) => ds[i]?.map .d
  | _ => none

def arrIndexT (P : Program) (t : TypeId) : T → T → Option T
  | .d (.agg cells), .d (.v (.int _ i)) => match arT P t with
    | some n => if 0 ≤ i ∧ i < n ∧ cells.length = n then cells[i.toNat]?.map .d else none
    | none => none
  | _, _ => none

section
variable {C : Ctx} {σ : Mem} {G : Gh} {s : St} {a : Act} {w : World}

theorem fieldT_sound (S : Stands C σ G s a w) {t : TypeId} {f : Nat} {x r : T} (h : fieldT C.P t f x = some r) {u : Value} (hu : RepT σ G x u) (hl : ∀ k, x.ref = some k → s.h k ≠ none) :
    ∃ v, (Instr.fieldAt t u f).run C.P w = .ok v w ∧ RepT σ G r v ∧ ∀ k, r.ref = some k → s.h k ≠ none := by
  have key : ∀ o, fldT C.P t f = some o → ∀ b off, (Instr.fieldAt t (.pointer (some ⟨b, off, none⟩)) f).run C.P w = .ok (.pointer (some ⟨b, off + o, none⟩)) w := by
    intro o ho b off
    unfold fldT at ho
    split at ho
    · rename_i fs hfs
      split at ho
      · rename_i fl hfl
        split at ho
        · rename_i m hm
          cases ho
          simp [Instr.fieldAt, run_underlying hfs, hfl, Instr.sureAddr, fieldPlace, run_szT hm, addr_add]
        · cases ho
      · cases ho
    · cases ho
  unfold fieldT at h
  split at h
  · rename_i k off
    simp only [Option.map_eq_some_iff] at h
    obtain ⟨o, ho, rfl⟩ := h
    obtain ⟨b, hb, rfl⟩ := hu
    exact ⟨_, key o ho b off, ⟨b, hb, rfl⟩, fun k' hk => hl k' (by simpa [T.ref] using hk)⟩
  · rename_i cells off
    simp only [Option.map_eq_some_iff] at h
    obtain ⟨o, ho, rfl⟩ := h
    simp only [RepT, Rep] at hu
    obtain ⟨b, o', rfl, hc⟩ := hu
    exact ⟨_, key o ho b _, by simp only [RepT, Rep]; exact ⟨b, o', by simp [Nat.add_assoc], hc⟩, by simp [T.ref]⟩
  · cases h

theorem elT_spec {P : Program} {t : TypeId} {n : Nat} (h : elT P t = some n) : ∃ e, P.underlying t = some (.slice e) ∧ szT P e = some n ∧ 0 < n := by
  unfold elT at h
  split at h
  · rename_i e he
    split at h
    · rename_i m hm; cases h; exact ⟨e, he, hm, by omega⟩
    · cases h
  · cases h

theorem run_indexAt {P : Program} {w : World} {t : TypeId} {n : Nat} (h : elT P t = some n) (k : IntKind) (b o len cap : Nat) (i : Int) (h0 : 0 ≤ i) (h1 : i < len) :
    (Instr.indexAt t (.slice (some ⟨b, o, none⟩) len cap) (.int k i)).run P w = .ok (.pointer (some ⟨b, o + i.toNat * n, none⟩)) w := by
  obtain ⟨e, he, hn, _⟩ := elT_spec h
  simp [Instr.indexAt, asIntOf, run_underlying he, h0, h1, run_szT hn, addr_add]

theorem indexT_sound (S : Stands C σ G s a w) {t : TypeId} {x y r : T} (h : indexT C.P s.h t x y = some r) {u v : Value} (hu : RepT σ G x u) (hv : RepT σ G y v) :
    ∃ z, (Instr.indexAt t u v).run C.P w = .ok z w ∧ RepT σ G r z ∧ ∀ k, r.ref = some k → s.h k ≠ none := by
  unfold indexT at h
  split at h
  · rename_i esz cells k i
    simp only [RepT, Rep] at hv
    subst hv
    split at h
    · rename_i n hn
      split at h
      · rename_i hc
        obtain ⟨rfl, h0, h1⟩ := hc
        cases h
        simp only [RepT, Rep] at hu
        rcases hu with ⟨_, rfl⟩ | ⟨b, o, len, cap, rfl, hlen, _, _, hcells⟩ | ⟨_, _, _, rfl, _⟩
        rotate_right
        · simp at h1
        · simp at h1
        · obtain ⟨_, _, _, hp⟩ := elT_spec hn
          have hi : i < (len : Int) := by
            rw [hlen] at h1
            have := Nat.lt_of_mul_lt_mul_right h1
            omega
          exact ⟨_, run_indexAt hn k b o len cap i h0 hi, by simp only [RepT, Rep]; exact ⟨b, o, rfl, hcells⟩, by simp [T.ref]⟩
      · cases h
    · cases h
  · rename_i k ki i
    simp only [RepT, Rep] at hv
    subst hv
    split at h
    · rename_i n e esz nn cells hn ho
      split at h
      · rename_i hc
        obtain ⟨rfl, h0, h1⟩ := hc
        cases h
        have H := S.obj _ _ ho
        simp only [ObjIs] at H
        obtain ⟨m, us, ⟨hx, hor⟩, h2, h3, _⟩ := H
        have hl := h2.length
        simp only [RepT] at hu
        rcases hor with ⟨hnil, rfl⟩ | ⟨g, cap, cur, hval, hg, hh, hnc, hcm, hcs, htk⟩
        · rw [hx] at hl; simp only [Nat.zero_mul] at hl; omega
        · obtain ⟨_, _, _, hp⟩ := elT_spec hn
          have hi : i < (m : Int) := by
            have h1' : i.toNat * n < m * n := by rw [← hx, hl]; exact h1
            have := Nat.lt_of_mul_lt_mul_right h1'
            omega
          rw [hu, hval]
          refine ⟨_, run_indexAt hn ki g 0 m cap i h0 hi, ⟨g, by rw [h3, hval]; rfl, by simp⟩, fun k' hk => ?_⟩
          simp only [T.ref, Option.some.injEq] at hk
          subst hk; rw [ho]; simp
      · cases h
    · cases h
  · cases h

theorem run_len {P : Program} {w : World} {t ty : TypeId} {n : Nat} (h : elT P t = some n) (x : Option Addr) (len cap : Nat) :
    (Builtin.len_ #[t] ty #[.slice x len cap]).run P w = .ok (.int .i64 len) w := by
  obtain ⟨e, he, hn, _⟩ := elT_spec h
  simp [Builtin.len_, run_underlying he, goInt]

theorem lenT_sound (S : Stands C σ G s a w) {t ty : TypeId} {x r : T} (h : lenT C.P s.h t x = some r) {u : Value} (hu : RepT σ G x u) :
    ∃ z, (Builtin.len_ #[t] ty #[u]).run C.P w = .ok z w ∧ RepT σ G r z ∧ ∀ k, r.ref = some k → s.h k ≠ none := by
  unfold lenT at h
  split at h
  · rename_i esz cells
    split at h
    · rename_i n hn
      split at h
      · rename_i hc; subst hc; cases h
        obtain ⟨_, _, _, hp⟩ := elT_spec hn
        simp only [RepT, Rep] at hu
        rcases hu with ⟨rfl, rfl⟩ | ⟨b, o, len, cap, rfl, hlen, _, _, hcells⟩ | ⟨_, _, rfl, rfl, _⟩
        · exact ⟨_, run_len hn _ _ _, by simp [RepT, Rep], by simp [T.ref]⟩
        · exact ⟨_, run_len hn _ _ _, by simp [RepT, Rep, hlen, Nat.mul_div_cancel _ hp], by simp [T.ref]⟩
        · exact ⟨_, run_len hn _ _ _, by simp [RepT, Rep], by simp [T.ref]⟩
      · cases h
    · cases h
  · split at h
    · rename_i n hn
      cases h
      simp only [RepT, Rep] at hu
      subst hu
      exact ⟨_, run_len hn _ _ _, by simp [RepT, Rep], by simp [T.ref]⟩
    · cases h
  · rename_i k
    split at h
    · rename_i n e esz nn cells hn ho
      split at h
      · rename_i hc; subst hc; cases h
        obtain ⟨_, _, _, hp⟩ := elT_spec hn
        have H := S.obj _ _ ho
        simp only [ObjIs] at H
        obtain ⟨m, us, ⟨hx, hor⟩, h2, h3, _⟩ := H
        have hl := h2.length
        simp only [RepT] at hu
        have hm : cells.length / n = m := by rw [← hl, hx, Nat.mul_div_cancel _ hp]
        rcases hor with ⟨hnil, rfl⟩ | ⟨g, cap, cur, hval, hg, hh, hnc, hcm, hcs, htk⟩
        · rw [hu, hnil]; exact ⟨_, run_len hn _ _ _, by simp [RepT, Rep, hm], by simp [T.ref]⟩
        · rw [hu, hval]; exact ⟨_, run_len hn _ _ _, by simp [RepT, Rep, hm], by simp [T.ref]⟩
      · cases h
    · cases h
  · cases h

def RepO (σ : Mem) (G : Gh) : Option T → Option Value → Prop
  | some c, some u => RepT σ G c u
  | none, none => True
  | _, _ => False
theorem boundT_spec {σ : Mem} {G : Gh} {d i : Int} {x : Option T} (h : boundT d x = some i) {v : Option Value} (hv : RepO σ G x v) :
    (v = none ∧ i = d) ∨ ∃ k, v = some (.int k i) := by
  unfold boundT at h
  split at h
  · cases h; cases v with
    | none => exact .inl ⟨rfl, rfl⟩
    | some u => exact hv.elim
  · cases h; cases v with
    | none => exact hv.elim
    | some u => simp only [RepO, RepT, Rep] at hv; exact .inr ⟨_, by rw [hv]⟩
  · cases h

theorem run_bound {P : Program} {w : World} (k : IntKind) (i : Int) (y : Nat) (c : BoundsCode) (h0 : 0 ≤ i) (h1 : i ≤ y) : (Instr.sliceBound (.int k i) y c).run P w = .ok i.toNat w := by
  simp [Instr.sliceBound, asIntOf, h0, h1]

theorem run_slice {P : Program} {w : World} {t : TypeId} {n : Nat} (h : elT P t = some n) (x : Option Addr) (len cap : Nat) (lo hi : Option Value) (l hh : Int)
    (hlo : (lo = none ∧ l = 0) ∨ ∃ k, lo = some (.int k l)) (hhi : (hi = none ∧ hh = len) ∨ ∃ k, hi = some (.int k hh)) (h0 : 0 ≤ l) (h1 : l ≤ hh) (h2 : hh ≤ cap) :
    (Instr.sliceAt t (.slice x len cap) lo hi none).run P w = .ok (.slice (if cap = l.toNat then x else x.map (·.add (l.toNat * n))) (hh.toNat - l.toNat) (cap - l.toNat)) w := by
  obtain ⟨e, he, hn, _⟩ := elT_spec h
  have hb : (Instr.sliceBounds true len cap lo hi none).run P w = .ok (l.toNat, hh.toNat, cap) w := by
    rcases hlo with ⟨rfl, rfl⟩ | ⟨k, rfl⟩ <;> rcases hhi with ⟨rfl, rfl⟩ | ⟨k', rfl⟩
    · simp [Instr.sliceBounds]
    · simp [Instr.sliceBounds, run_bound k' hh cap _ (by omega) h2]
    · simp [Instr.sliceBounds, run_bound k l len _ h0 (by omega)]
    · simp [Instr.sliceBounds, run_bound k' hh cap _ (by omega) h2, run_bound k l hh.toNat _ h0 (by omega)]
  simp only [Instr.sliceAt, Instr.slice, Sem.run_bind, run_underlying he, Result.andThen_ok, hb, run_szT hn, Sem.run_pure]

theorem sliceT_sound (S : Stands C σ G s a w) {t : TypeId} {lo hi mx : Option T} {x r : T} (h : sliceT C.P t lo hi mx x = some r) {u : Value} (hu : RepT σ G x u)
    {vlo vhi vmx : Option Value} (hlo : RepO σ G lo vlo)
    (hhi : RepO σ G hi vhi) (hmx : mx = none → vmx = none) :
    ∃ z, (Instr.sliceAt t u vlo vhi vmx).run C.P w = .ok z w ∧ RepT σ G r z ∧ ∀ k, r.ref = some k → s.h k ≠ none := by
  unfold sliceT at h
  split at h
  · rename_i esz cells
    cases hn : elT C.P t with
    | none => simp [hn] at h
    | some n => cases hl : boundT 0 lo with
    | none => simp [hn, hl] at h
    | some l => cases hh' : boundT (cells.length / esz : Nat) hi with
    | none => simp only [hn, hl, hh'] at h; cases h
    | some hh => cases mx with
    | some _ => simp only [hn, hl, hh'] at h; cases h
    | none =>
      simp only [hn, hl, hh'] at h
      split at h
      · rename_i hc
        obtain ⟨rfl, h0, h1, h2⟩ := hc
        cases h
        have hmx' := hmx rfl
        subst hmx'
        obtain ⟨_, _, _, hp⟩ := elT_spec hn
        have b1 := boundT_spec hl hlo
        have b2 := boundT_spec hh' hhi
        simp only [RepT, Rep] at hu
        rcases hu with ⟨rfl, rfl⟩ | ⟨b, o, len, cap, rfl, hlen, hcap, hcm, hcells⟩ | ⟨q, cap, rfl, rfl, hcm⟩
        rotate_right
        · have hz : hh.toNat = 0 := by
            simp only [List.length_nil, Nat.le_zero, Nat.mul_eq_zero] at h2
            rcases h2 with h2 | h2 <;> omega
          have hz2 : l.toNat = 0 := by omega
          refine ⟨_, run_slice hn (some q) 0 cap vlo vhi l hh b1 (by simpa using b2) h0 h1 (by omega), ?_, by simp [T.ref]⟩
          simp only [RepT, Rep]
          refine .inr (.inr ⟨q, cap, ?_, by simp, hcm⟩)
          simp [hz, hz2, Addr.add]
        · have hz : hh.toNat = 0 := by
            simp only [List.length_nil, Nat.le_zero, Nat.mul_eq_zero] at h2
            rcases h2 with h2 | h2 <;> omega
          have hz2 : l.toNat = 0 := by omega
          refine ⟨_, run_slice hn none 0 0 vlo vhi l hh b1 (by simpa using b2) h0 h1 (by omega), ?_, by simp [T.ref]⟩
          simp [RepT, Rep, hz, hz2]
        · have hq : cells.length / n = len := by rw [hlen, Nat.mul_div_cancel _ hp]
          rw [hq] at b2
          have hle : hh.toNat ≤ len := by rw [hlen] at h2; exact Nat.le_of_mul_le_mul_right h2 hp
          refine ⟨_, run_slice hn _ len cap vlo vhi l hh b1 b2 h0 h1 (by omega), ?_, by simp [T.ref]⟩
          simp only [RepT, Rep]
          right
          left
          have hlt : (l.toNat * n) + (hh.toNat - l.toNat) * n ≤ cells.length := by
            rw [← Nat.add_mul, show l.toNat + (hh.toNat - l.toNat) = hh.toNat by omega]; exact h2
          have hll : (List.take ((hh.toNat - l.toNat) * n) (List.drop (l.toNat * n) cells)).length = (hh.toNat - l.toNat) * n := by
            simp; omega
          by_cases hcl : cap = l.toNat
          · have hz : hh.toNat - l.toNat = 0 := by omega
            refine ⟨b, o, hh.toNat - l.toNat, cap - l.toNat, by simp [hcl], hll, by omega, by omega, ?_⟩
            rw [hz]; simp [RepC]
          · refine ⟨b, o + l.toNat * n, hh.toNat - l.toNat, cap - l.toNat, by simp [hcl, addr_add], hll, by omega, by omega, ?_⟩
            exact (hcells.drop _).take _
      · cases h
  · cases h

theorem extractT_sound {i : Nat} {x r : T} (h : extractT i x = some r) {u : Value} (hu : RepT σ G x u) :
    ∃ z, (Instr.extract u i).run C.P w = .ok z w ∧ RepT σ G r z ∧ ∀ k, r.ref = some k → s.h k ≠ none := by
  unfold extractT at h
  split at h
  · rename_i ds
    simp only [Option.map_eq_some_iff] at h
    obtain ⟨d, hd, rfl⟩ := h
    simp only [RepT, Rep] at hu
    obtain ⟨us, rfl, hl⟩ := hu
    obtain ⟨z, h1, h2⟩ := hl.get i d hd
    refine ⟨z, ?_, h2, by simp [T.ref]⟩
    rw [Array.getElem?_toList] at h1
    simp [Instr.extract, h1]
  · cases h

theorem arrIndexT_sound {t : TypeId} {x y r : T} (h : arrIndexT C.P t x y = some r) {u v : Value} (hu : RepT σ G x u) (hv : RepT σ G y v) :
    ∃ z, (Instr.index t u v).run C.P w = .ok z w ∧ RepT σ G r z ∧ ∀ k, r.ref = some k → s.h k ≠ none := by
  unfold arrIndexT at h
  split at h
  · rename_i cells k i
    simp only [RepT, Rep] at hv hu
    subst hv
    obtain ⟨us, rfl, hl⟩ := hu
    split at h
    · rename_i n hn
      split at h
      · rename_i hc
        obtain ⟨h0, h1, h2⟩ := hc
        simp only [Option.map_eq_some_iff] at h
        obtain ⟨d, hd, rfl⟩ := h
        obtain ⟨z, h3, _, h4⟩ := hl.get _ d hd
        refine ⟨z, ?_, h4, by simp [T.ref]⟩
        unfold arT at hn
        split at hn
        · rename_i m e he
          split at hn
          · rename_i hs hag
            cases hn
            rw [Array.getElem?_toList] at h3
            simp [Instr.index, asIntOf, run_underlying he, h0, h1, part, run_szT hs, run_agT hag, h3]
          · cases hn
        · cases hn
      · cases h
    · cases h
  · cases h
end
end Go.Enc
