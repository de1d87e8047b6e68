/-
  A logic of data over the walk's own rules: values read as data (D), local blocks are told by keys, calls by contracts on data.
-/
import Derived.WalkKit
import Derived.Orders
namespace Go.Enc
open Go.RowKit
/-- What is known to stay as it is: block, offset, the cell's value. -/
abbrev Mem := Nat → Nat → Option Value
/-- Data. -/
inductive D where
  | v (x : Value)
  | sl (esz : Nat) (cells : List D)
  | agg (cells : List D)
  | tup (vs : List D)
  | ip (t : TypeId) (cells : List D)
  | pd (cells : List D) (off : Nat)
  | fn (g : FuncId) (caps : List D)
  | any
mutual
/-- The value reads as the datum. -/
def Rep (σ : Mem) : D → Value → Prop
  | .v x, u => u = x
  | .sl esz cells, u => (u = .slice none 0 0 ∧ cells = []) ∨
      (∃ b o len cap, u = .slice (some ⟨b, o, none⟩) len cap ∧ cells.length = len * esz ∧ len ≤ cap ∧ cap ≤ maxLen ∧ RepC σ cells b o) ∨
      ∃ a cap, u = .slice (some a) 0 cap ∧ cells = [] ∧ cap ≤ maxLen
  | .agg cells, u => ∃ us, u = .agg us ∧ RepU σ cells us.toList
  | .tup vs, u => ∃ us, u = .tuple us ∧ RepL σ vs us.toList
  | .ip t cells, u => ∃ b o, u = .iface t (.pointer (some ⟨b, o, none⟩)) ∧ RepC σ cells b o
  | .pd cells off, u => ∃ b o, u = .pointer (some ⟨b, o + off, none⟩) ∧ RepC σ cells b o
  | .fn g caps, u => ∃ us, u = .func (.func g) #[] us ∧ RepL σ caps us.toList
  | .any, _ => True
/-- Values that read as these data, one by one. -/
def RepL (σ : Mem) : List D → List Value → Prop
  | [], us => us = []
  | d :: ds, us => ∃ u r, us = u :: r ∧ Rep σ d u ∧ RepL σ ds r
/-- .. each the value of one cell. -/
def RepU (σ : Mem) : List D → List Value → Prop
  | [], us => us = []
  | d :: ds, us => ∃ u r, us = u :: r ∧ u.oneCell' = true ∧ Rep σ d u ∧ RepU σ ds r
/-- The cells from an address on stay as they are and read as these data. -/
def RepC (σ : Mem) : List D → Nat → Nat → Prop
  | [], _, _ => True
  | d :: ds, b, o => (∃ u, σ b o = some u ∧ u.oneCell' = true ∧ Rep σ d u) ∧ RepC σ ds b (o + 1)
end
def Mem.le (σ σ' : Mem) : Prop := ∀ b o u, σ b o = some u → σ' b o = some u
theorem Mem.le_refl (σ : Mem) : σ.le σ := fun _ _ _ h => h
theorem Mem.le_trans {a b c : Mem} (h : a.le b) (k : b.le c) : a.le c := fun _ _ _ x => k _ _ _ (h _ _ _ x)
mutual
theorem Rep.mono {σ σ' : Mem} (h : σ.le σ') : ∀ (d : D) (u : Value), Rep σ d u → Rep σ' d u
  | .v _, _, hr => by simpa [Rep] using hr
  | .sl _ cells, _, hr => by
    simp only [Rep] at hr ⊢
    rcases hr with hr | ⟨b, o, len, cap, h1, h2, h3, h4, h5⟩ | hr
    · exact .inl hr
    · exact .inr (.inl ⟨b, o, len, cap, h1, h2, h3, h4, RepC.mono h cells b o h5⟩)
    · exact .inr (.inr hr)
  | .agg cells, _, hr => by
    simp only [Rep] at hr ⊢
    obtain ⟨us, h1, h2⟩ := hr
    exact ⟨us, h1, RepU.mono h cells _ h2⟩
  | .tup vs, _, hr => by
    simp only [Rep] at hr ⊢
    obtain ⟨us, h1, h2⟩ := hr
    exact ⟨us, h1, RepL.mono h vs _ h2⟩
  | .ip _ cells, _, hr => by
    simp only [Rep] at hr ⊢
    obtain ⟨b, o, h1, h2⟩ := hr
    exact ⟨b, o, h1, RepC.mono h cells b o h2⟩
  | .pd cells _, _, hr => by
    simp only [Rep] at hr ⊢
    obtain ⟨b, o, h1, h2⟩ := hr
    exact ⟨b, o, h1, RepC.mono h cells b o h2⟩
  | .fn g caps, _, hr => by
    simp only [Rep] at hr ⊢
    obtain ⟨us, h1, h2⟩ := hr
    exact ⟨us, h1, RepL.mono h caps _ h2⟩
  | .any, _, _ => by simp [Rep]
theorem RepL.mono {σ σ' : Mem} (h : σ.le σ') : ∀ (ds : List D) (us : List Value), RepL σ ds us → RepL σ' ds us
  | [], _, hr => by simpa [RepL] using hr
  | d :: ds, _, hr => by
    simp only [RepL] at hr ⊢
    obtain ⟨u, r, h1, h2, h3⟩ := hr
    exact ⟨u, r, h1, Rep.mono h d u h2, RepL.mono h ds r h3⟩
theorem RepU.mono {σ σ' : Mem} (h : σ.le σ') : ∀ (ds : List D) (us : List Value), RepU σ ds us → RepU σ' ds us
  | [], _, hr => by simpa [RepU] using hr
  | d :: ds, _, hr => by
    simp only [RepU] at hr ⊢
    obtain ⟨u, r, h1, h0, h2, h3⟩ := hr
    exact ⟨u, r, h1, h0, Rep.mono h d u h2, RepU.mono h ds r h3⟩
theorem RepC.mono {σ σ' : Mem} (h : σ.le σ') : ∀ (ds : List D) (b o : Nat), RepC σ ds b o → RepC σ' ds b o
  | [], _, _, _ => by simp [RepC]
  | d :: ds, b, o, hr => by
    simp only [RepC] at hr ⊢
    obtain ⟨⟨u, h1, h0, h2⟩, h3⟩ := hr
    exact ⟨⟨u, h _ _ _ h1, h0, Rep.mono h d u h2⟩, RepC.mono h ds b (o + 1) h3⟩
end
theorem RepU.length {σ : Mem} : ∀ {ds : List D} {us : List Value}, RepU σ ds us → us.length = ds.length
  | [], _, h => by simp only [RepU] at h; simp [h]
  | _ :: ds, _, h => by
    simp only [RepU] at h
    obtain ⟨u, r, rfl, _, _, h3⟩ := h
    simp [RepU.length h3]
theorem RepU.one {σ : Mem} : ∀ {ds : List D} {us : List Value}, RepU σ ds us → ∀ u ∈ us, u.oneCell' = true
  | [], _, h => by simp only [RepU] at h; simp [h]
  | _ :: ds, _, h => by
    simp only [RepU] at h
    obtain ⟨u, r, rfl, h1, _, h3⟩ := h
    intro x hx
    rcases List.mem_cons.1 hx with rfl | hx
    · exact h1
    · exact RepU.one h3 x hx
theorem RepU.get {σ : Mem} : ∀ {ds : List D} {us : List Value}, RepU σ ds us → ∀ (i : Nat) (d : D), ds[i]? = some d → ∃ u, us[i]? = some u ∧ u.oneCell' = true ∧ Rep σ d u
  | [], _, _, i, d, hd => by simp at hd
  | _ :: ds, _, h, i, d, hd => by
    simp only [RepU] at h
    obtain ⟨u, r, rfl, h1, h2, h3⟩ := h
    cases i with
    | zero => simp only [List.getElem?_cons_zero, Option.some.injEq] at hd; subst hd; exact ⟨u, by simp, h1, h2⟩
    | succ i => simp only [List.getElem?_cons_succ] at hd ⊢; exact RepU.get h3 i d hd
theorem RepU.append {σ : Mem} : ∀ {ds es : List D} {us vs : List Value}, RepU σ ds us → RepU σ es vs → RepU σ (ds ++ es) (us ++ vs)
  | [], _, _, _, h, k => by simp only [RepU] at h; simpa [h] using k
  | _ :: ds, es, _, vs, h, k => by
    simp only [RepU] at h
    obtain ⟨u, r, rfl, h1, h2, h3⟩ := h
    simp only [List.cons_append, RepU]
    exact ⟨u, r ++ vs, rfl, h1, h2, RepU.append h3 k⟩
theorem RepU.extract {σ : Mem} : ∀ {ds : List D} {us : List Value}, RepU σ ds us → ∀ (i n : Nat), RepU σ ((ds.drop i).take n) ((us.drop i).take n)
  | [], _, h, i, n => by simp only [RepU] at h; simp [h, RepU]
  | d :: ds, _, h, i, n => by
    simp only [RepU] at h
    obtain ⟨u, r, rfl, h1, h2, h3⟩ := h
    cases i with
    | zero =>
      cases n with
      | zero => simp [RepU]
      | succ n =>
        have := RepU.extract h3 0 n
        simp only [List.drop_zero] at this
        simp only [List.drop_zero, List.take_succ_cons, RepU]
        exact ⟨u, r.take n, rfl, h1, h2, this⟩
    | succ i => simpa using RepU.extract h3 i n
theorem RepU.set {σ : Mem} : ∀ {ds : List D} {us : List Value}, RepU σ ds us → ∀ (i : Nat) (d : D) (u : Value), u.oneCell' = true → Rep σ d u → RepU σ (ds.set i d) (us.set i u)
  | [], _, h, i, _, _, _, _ => by simp only [RepU] at h; simp [h, RepU]
  | d0 :: ds, _, h, i, d, u, h0, hr => by
    simp only [RepU] at h
    obtain ⟨u', r, rfl, h1, h2, h3⟩ := h
    cases i with
    | zero => simp only [List.set_cons_zero, RepU]; exact ⟨u, r, rfl, h0, hr, h3⟩
    | succ i => simp only [List.set_cons_succ, RepU]; exact ⟨u', _, rfl, h1, h2, RepU.set h3 i d u h0 hr⟩
theorem RepC.get {σ : Mem} : ∀ {ds : List D} {b o : Nat}, RepC σ ds b o → ∀ (i : Nat) (d : D), ds[i]? = some d → ∃ u, σ b (o + i) = some u ∧ u.oneCell' = true ∧ Rep σ d u
  | [], _, _, _, i, d, hd => by simp at hd
  | _ :: ds, b, o, h, i, d, hd => by
    simp only [RepC] at h
    cases i with
    | zero => simp only [List.getElem?_cons_zero, Option.some.injEq] at hd; subst hd; exact h.1
    | succ i =>
      simp only [List.getElem?_cons_succ] at hd
      have := RepC.get h.2 i d hd
      rwa [show o + 1 + i = o + (i + 1) by omega] at this
theorem RepC.drop {σ : Mem} : ∀ {ds : List D} {b o : Nat}, RepC σ ds b o → ∀ (i : Nat), RepC σ (ds.drop i) b (o + i)
  | [], _, _, _, i => by simp [RepC]
  | _ :: ds, b, o, h, i => by
    simp only [RepC] at h
    cases i with
    | zero => simp only [List.drop_zero, Nat.add_zero, RepC]; exact h
    | succ i =>
      have := RepC.drop h.2 i
      rw [show o + 1 + i = o + (i + 1) by omega] at this
      simpa using this
theorem RepC.take {σ : Mem} : ∀ {ds : List D} {b o : Nat}, RepC σ ds b o → ∀ (i : Nat), RepC σ (ds.take i) b o
  | [], _, _, _, i => by simp [RepC]
  | _ :: ds, b, o, h, i => by
    simp only [RepC] at h
    cases i with
    | zero => simp [RepC]
    | succ i => simp only [List.take_succ_cons, RepC]; exact ⟨h.1, RepC.take h.2 i⟩
/-- The cells' values. -/
theorem RepC.values {σ : Mem} : ∀ {ds : List D} {b o : Nat}, RepC σ ds b o → ∃ us, RepU σ ds us ∧ ∀ i u, us[i]? = some u → σ b (o + i) = some u
  | [], _, _, _ => ⟨[], by simp [RepU], by simp⟩
  | _ :: ds, b, o, h => by
    simp only [RepC] at h
    obtain ⟨⟨u, h1, h0, h2⟩, h3⟩ := h
    obtain ⟨r, hr, hc⟩ := RepC.values h3
    refine ⟨u :: r, by simp only [RepU]; exact ⟨u, r, rfl, h0, h2, hr⟩, fun i v hv => ?_⟩
    cases i with
    | zero => simp only [List.getElem?_cons_zero, Option.some.injEq] at hv; subst hv; exact h1
    | succ i =>
      simp only [List.getElem?_cons_succ] at hv
      have := hc i v hv
      rwa [show o + 1 + i = o + (i + 1) by omega] at this
theorem RepC.of_values {σ : Mem} : ∀ {ds : List D} {us : List Value} {b o : Nat}, RepU σ ds us → (∀ i u, us[i]? = some u → σ b (o + i) = some u) → RepC σ ds b o
  | [], _, _, _, _, _ => by simp [RepC]
  | _ :: ds, _, b, o, h, hc => by
    simp only [RepU] at h
    obtain ⟨u, r, rfl, h0, h1, h2⟩ := h
    simp only [RepC]
    refine ⟨⟨u, by simpa using hc 0 u (by simp), h0, h1⟩, RepC.of_values h2 fun i v hv => ?_⟩
    have := hc (i + 1) v (by simpa using hv)
    rwa [show o + (i + 1) = o + 1 + i by omega] at this
theorem RepL.length {σ : Mem} : ∀ {ds : List D} {us : List Value}, RepL σ ds us → us.length = ds.length
  | [], _, h => by simp only [RepL] at h; simp [h]
  | _ :: ds, _, h => by
    simp only [RepL] at h
    obtain ⟨u, r, rfl, _, h3⟩ := h
    simp [RepL.length h3]
theorem RepL.get {σ : Mem} : ∀ {ds : List D} {us : List Value}, RepL σ ds us → ∀ (i : Nat) (d : D), ds[i]? = some d → ∃ u, us[i]? = some u ∧ Rep σ d u
  | [], _, _, i, d, hd => by simp at hd
  | _ :: ds, _, h, i, d, hd => by
    simp only [RepL] at h
    obtain ⟨u, r, rfl, h1, h2⟩ := h
    cases i with
    | zero => simp only [List.getElem?_cons_zero, Option.some.injEq] at hd; subst hd; exact ⟨u, by simp, h1⟩
    | succ i => simp only [List.getElem?_cons_succ] at hd ⊢; exact RepL.get h2 i d hd
end Go.Enc
