/-
  Arithmetic, comparisons, conversions: the machine yields what is told.
-/
import Derived.Test.YtjlibljfpkmpfaaDoorOps3
namespace Go.Enc
open Go.RowKit
section
variable {C : Ctx} {σ : Mem} {G : Gh} {s : St} {a : Act} {w : World}

theorem binOp_eql_nil {t : TypeId} {u v : Value} (hv : v = .nilIface ∨ v = .slice none 0 0 ∨ v = .nilFunc) : binOp .eql t u v = (do pure (.bool (← Op.equal t u v))) := by
  rcases hv with rfl | rfl | rfl <;> cases u <;> rfl
theorem binOp_neq_nil {t : TypeId} {u v : Value} (hv : v = .nilIface ∨ v = .slice none 0 0 ∨ v = .nilFunc) : binOp .neq t u v = (do pure (.bool (!(← Op.equal t u v)))) := by
  rcases hv with rfl | rfl | rfl <;> cases u <;> rfl

theorem binT_sound (S : Stands C σ G s a w) {op : BinOp} {t : TypeId} {xo yo : Operand} {x y r : T} (h : binT C.P s.h op t yo x y = some r) (hf : isNilOf yo = true → nilFits C.P t yo = true)
    {u v : Value} (hu : RepT σ G x u) (hv : RepT σ G y v) (hyv : v = a.eval yo) :
    ∃ z, ((do eqGuard op t xo yo u v; binOp op t u v : Sem Value)).run C.P w = .ok z w ∧ RepT σ G r z ∧ ∀ k, r.ref = some k → s.h k ≠ none := by
  have fin : ∀ z, ((do eqGuard op t xo yo u v; binOp op t u v : Sem Value)).run C.P w = .ok z w → r = .d (.v z) →
      ∃ z, ((do eqGuard op t xo yo u v; binOp op t u v : Sem Value)).run C.P w = .ok z w ∧ RepT σ G r z ∧ ∀ k, r.ref = some k → s.h k ≠ none :=
    fun z hz e => ⟨z, hz, by rw [e]; simp [RepT, Rep], by rw [e]; simp [T.ref]⟩
  unfold binT at h
  split at h
  · rename_i hn
    have hfit := nilFits_spec (hf hn) a
    rw [← hyv] at hfit
    have hor := (isNilOf_val hn s a).1
    rw [← hyv] at hor
    have hna : ∀ c, v ≠ .agg c := by rcases hor with e | e | e <;> rw [e] <;> simp
    have hg := run_eqGuard_nil (P := C.P) (w := w) (op := op) (t := t) (x := xo) (u := u) hn hna
    split at h
    · simp only [Option.map_eq_some_iff] at h
      obtain ⟨b, hb, rfl⟩ := h
      have he := run_equal_nil S hb hu hfit
      refine fin (.bool b) ?_ rfl
      simp only [Sem.run_bind, hg, Result.andThen_ok, binOp_eql_nil hor, he, Sem.run_pure]
    · simp only [Option.map_eq_some_iff] at h
      obtain ⟨b, hb, rfl⟩ := h
      have he := run_equal_nil S hb hu hfit
      refine fin (.bool (!b)) ?_ rfl
      simp only [Sem.run_bind, hg, Result.andThen_ok, binOp_neq_nil hor, he, Sem.run_pure]
    · cases h
  · split at h
    · rename_i k p k' q
      simp only [RepT, Rep] at hu hv
      rw [hu] at fin ⊢; rw [hv] at fin ⊢
      have hg := run_eqGuard_other (P := C.P) (w := w) (op := op) (t := t) (x := xo) (y := yo) (u := .int k p) (v := .int k' q) (by simp) (by simp)
      split at h
      · rename_i hs
        simp only [Option.map_eq_some_iff] at h
        obtain ⟨z, hz, rfl⟩ := h
        exact fin z (by simp only [Sem.run_bind, hg, Result.andThen_ok, run_pshift hs hz]) rfl
      · rename_i hs
        split at h
        · rename_i hk; subst hk
          simp only [Option.map_eq_some_iff] at h
          obtain ⟨z, hz, rfl⟩ := h
          exact fin z (by simp only [Sem.run_bind, hg, Result.andThen_ok, run_pint (by simpa using hs) hz]) rfl
        · cases h
    · rename_i k p k' q
      simp only [RepT, Rep] at hu hv
      rw [hu] at fin ⊢; rw [hv] at fin ⊢
      have hg := run_eqGuard_other (P := C.P) (w := w) (op := op) (t := t) (x := xo) (y := yo) (u := .float k p) (v := .float k' q) (by simp) (by simp)
      split at h
      · cases h
      · split at h
        · rename_i hk; subst hk
          simp only [Option.map_eq_some_iff] at h
          obtain ⟨z, hz, rfl⟩ := h
          exact fin z (by simp only [Sem.run_bind, hg, Result.andThen_ok, run_pfloat hz]) rfl
        · cases h
    · rename_i p q
      simp only [RepT, Rep] at hu hv
      rw [hu] at fin ⊢; rw [hv] at fin ⊢
      have hg := run_eqGuard_other (P := C.P) (w := w) (op := op) (t := t) (x := xo) (y := yo) (u := .string p) (v := .string q) (by simp) (by simp)
      split at h
      · cases h
        exact fin _ (by simp only [Sem.run_bind, hg, Result.andThen_ok]; rfl) rfl
      · cases h
        exact fin _ (by simp only [Sem.run_bind, hg, Result.andThen_ok]; rfl) rfl
      · cases h
    · rename_i p q
      simp only [RepT, Rep] at hu hv
      rw [hu] at fin ⊢; rw [hv] at fin ⊢
      have hg := run_eqGuard_other (P := C.P) (w := w) (op := op) (t := t) (x := xo) (y := yo) (u := .bool p) (v := .bool q) (by simp) (by simp)
      split at h
      · rename_i ht
        cases h
        have he : (Op.equal t (.bool p) (.bool q)).run C.P w = .ok (p == q) w := eqIn_bool ht 9999 p q
        exact fin _ (by simp only [Sem.run_bind, hg, Result.andThen_ok]; change ((do pure (Value.bool (← Op.equal t (.bool p) (.bool q))) : Sem Value)).run C.P w = _; simp only [Sem.run_bind, he, Result.andThen_ok, Sem.run_pure]) rfl
      · rename_i ht
        cases h
        have he : (Op.equal t (.bool p) (.bool q)).run C.P w = .ok (p == q) w := eqIn_bool ht 9999 p q
        exact fin _ (by simp only [Sem.run_bind, hg, Result.andThen_ok]; change ((do pure (Value.bool (!(← Op.equal t (.bool p) (.bool q)))) : Sem Value)).run C.P w = _; simp only [Sem.run_bind, he, Result.andThen_ok, Sem.run_pure]) rfl
      · cases h
    · rename_i as bs
      simp only [RepT, Rep] at hu hv
      obtain ⟨us, rfl, hus⟩ := hu
      obtain ⟨vs, rfl, hvs⟩ := hv
      split at h
      · simp only [Option.map_eq_some_iff] at h
        obtain ⟨b, hb, rfl⟩ := h
        have he := run_eqAgg (P := C.P) (w := w) hb hus hvs
        refine fin _ ?_ rfl
        have hg : (eqGuard .eql t xo yo (.agg us) (.agg vs)).run C.P w = .ok () w := by simp [eqGuard, he.2]
        simp only [Sem.run_bind, hg, Result.andThen_ok]
        change ((do pure (Value.bool (← Op.equal t (.agg us) (.agg vs))) : Sem Value)).run C.P w = _
        simp only [Sem.run_bind, he.1, Result.andThen_ok, Sem.run_pure]
      · simp only [Option.map_eq_some_iff] at h
        obtain ⟨b, hb, rfl⟩ := h
        have he := run_eqAgg (P := C.P) (w := w) hb hus hvs
        refine fin _ ?_ rfl
        have hg : (eqGuard .neq t xo yo (.agg us) (.agg vs)).run C.P w = .ok () w := by simp [eqGuard, he.2]
        simp only [Sem.run_bind, hg, Result.andThen_ok]
        change ((do pure (Value.bool (!(← Op.equal t (.agg us) (.agg vs)))) : Sem Value)).run C.P w = _
        simp only [Sem.run_bind, he.1, Result.andThen_ok, Sem.run_pure]
      · cases h
    · cases h

theorem unT_sound {op : UnOp} {x r : T} (h : unT op x = some r) {u : Value} (hu : RepT σ G x u) :
    ∃ z, (Op.unary op u).run C.P w = .ok z w ∧ RepT σ G r z ∧ ∀ k, r.ref = some k → s.h k ≠ none := by
  unfold unT at h
  split at h
  · simp only [RepT, Rep] at hu; subst hu
    split at h
    · cases h; exact ⟨_, by simp [Op.unary, Op.intArith]; rfl, by simp [RepT, Rep], by simp [T.ref]⟩
    · cases h
  · simp only [RepT, Rep] at hu; subst hu
    split at h
    · cases h; exact ⟨.float _ _, by simp [Op.unary]; exact ⟨rfl, rfl⟩, by simp [RepT, Rep], by simp [T.ref]⟩
    · cases h
  · simp only [RepT, Rep] at hu; subst hu
    split at h
    · rename_i b _
      cases h; exact ⟨.bool (!b), by simp [Op.unary], by simp [RepT, Rep], by simp [T.ref]⟩
    · cases h
  · cases h

theorem convT_sound {src dst : TypeId} {x r : T} (h : convT C.P src dst x = some r) {u : Value} (hu : RepT σ G x u) :
    ∃ z, (convert src dst u).run C.P w = .ok z w ∧ RepT σ G r z ∧ ∀ k, r.ref = some k → s.h k ≠ none := by
  unfold convT at h
  split at h
  · rename_i ki n
    simp only [RepT, Rep] at hu; subst hu
    split at h
    · rename_i d k hs hd
      cases h
      exact ⟨.int k (k.wrap n), by cases d <;> simp [convert, run_underlying hs, run_underlying hd, Conv.intToInt], by simp [RepT, Rep], by simp [T.ref]⟩
    · rename_i d k hs hd
      cases h
      exact ⟨.float k (k.nearest n), by cases d <;> simp [convert, run_underlying hs, run_underlying hd, Conv.intToFloat], by simp [RepT, Rep], by simp [T.ref]⟩
    · cases h
  · rename_i f b
    simp only [RepT, Rep] at hu; subst hu
    split at h
    · rename_i d k hs hd
      simp only [Option.map_eq_some_iff] at h
      obtain ⟨n, hn, rfl⟩ := h
      exact ⟨.int k n, run_convert_float_int w src dst f k b n (by simp [hs]) hd hn, by simp [RepT, Rep], by simp [T.ref]⟩
    · rename_i d k hs hd
      split at h
      · rename_i hk; subst hk; cases h
        exact ⟨.float f b, run_convert_float_float w src dst f f b b (by simp [hs]) hd (by simp [floatToFloatBits]), by simp [RepT, Rep], by simp [T.ref]⟩
      · cases h
    · cases h
  · cases h

theorem foldF_sound {mx : Bool} : ∀ {l : List T} {us : List Value} {x z : Nat}, foldF mx x l = some z → us.length = l.length → (∀ (i : Nat) (c : T) (u : Value), l[i]? = some c → us[i]? = some u → RepT σ G c u) →
    ((us.foldlM (if mx then Builtin.max2 else Builtin.min2) (.float .f64 x) : Sem Value)).run C.P w = .ok (.float .f64 z) w
  | [], us, x, z, h, hl, _ => by
    have : us = [] := List.eq_nil_of_length_eq_zero (by simpa using hl)
    subst this
    simp only [foldF, Option.some.injEq] at h; subst h
    simp
  | .d (.v (.float .f64 y)) :: r, [], x, z, h, hl, _ => by simp at hl
  | .d (.v (.float .f64 y)) :: r, u :: us, x, z, h, hl, hr => by
    simp only [foldF, Option.bind_eq_some_iff] at h
    obtain ⟨m, hm, h⟩ := h
    have hu : u = .float .f64 y := by have := hr 0 _ u rfl rfl; simpa [RepT, Rep] using this
    subst hu
    have h1 : ((if mx then Builtin.max2 else Builtin.min2) (.float .f64 x) (.float .f64 y)).run C.P w = .ok (.float .f64 m) w := by
      unfold pickF at hm
      split at hm
      · cases hm
      · rename_i ho; cases hm; cases mx <;> simp [Builtin.max2, Builtin.min2, ho]
      · rename_i ho; cases hm; cases mx <;> simp [Builtin.max2, Builtin.min2, ho]
      · rename_i ho; cases hm; cases mx <;> simp [Builtin.max2, Builtin.min2, ho]
    simp only [List.foldlM_cons, Sem.run_bind, h1, Result.andThen_ok]
    exact foldF_sound h (by simpa using hl) (fun i c u hc hu => hr (i + 1) c u (by simpa using hc) (by simpa using hu))

theorem minmaxT_sound {mx : Bool} {l : List T} {r : T} (h : minmaxT mx l = some r) {us : List Value} (hl : us.length = l.length) (hr : ∀ (i : Nat) (c : T) (u : Value), l[i]? = some c → us[i]? = some u → RepT σ G c u) (ts : Array TypeId) (ty : TypeId) :
    ∃ z, ((if mx then Builtin.max_ else Builtin.min_) ts ty us.toArray).run C.P w = .ok z w ∧ RepT σ G r z ∧ ∀ k, r.ref = some k → s.h k ≠ none := by
  unfold minmaxT at h
  split at h
  · rename_i x l'
    simp only [Option.map_eq_some_iff] at h
    obtain ⟨z, hz, rfl⟩ := h
    cases us with
    | nil => simp at hl
    | cons u us =>
      have hu : u = .float .f64 x := by have := hr 0 _ u rfl rfl; simpa [RepT, Rep] using this
      subst hu
      have := foldF_sound (C := C) (w := w) (σ := σ) (G := G) hz (by simpa using hl) (fun i c u hc hu => hr (i + 1) c u (by simpa using hc) (by simpa using hu))
      refine ⟨.float .f64 z, ?_, by simp [RepT, Rep], by simp [T.ref]⟩
      cases mx <;> simpa [Builtin.max_, Builtin.min_] using this
  · cases h

theorem mkIfaceT_sound {t : TypeId} {x r : T} (h : mkIfaceT C.P t x = some r) {u : Value} (hu : RepT σ G x u) (hl : ∀ k, x.ref = some k → s.h k ≠ none) :
    ∃ z, (Instr.makeInterface t u).run C.P w = .ok z w ∧ RepT σ G r z ∧ ∀ k, r.ref = some k → s.h k ≠ none := by
  unfold mkIfaceT at h
  split at h
  · rename_i e he
    split at h
    · rename_i k
      cases h
      simp only [RepT] at hu
      obtain ⟨b, hb, rfl⟩ := hu
      exact ⟨.iface t (.pointer (some ⟨b, 0, none⟩)), by simp [Instr.makeInterface, run_underlying he], ⟨b, hb, rfl⟩, fun k' hk => hl k' (by simpa [T.ref] using hk)⟩
    · rename_i v
      cases h
      simp only [RepT, Rep] at hu; subst hu
      exact ⟨.iface t u, by simp [Instr.makeInterface, run_underlying he], by simp [RepT, Rep], by simp [T.ref]⟩
    · cases h
  · rename_i e he
    split at h
    · rename_i v
      cases h
      simp only [RepT, Rep] at hu; subst hu
      exact ⟨.iface t u, by simp [Instr.makeInterface, run_underlying he], by simp [RepT, Rep], by simp [T.ref]⟩
    · cases h
  · cases h

theorem nilCheckT_spec {x r : T} (h : nilCheckT x = some r) {u : Value} (hu : RepT σ G x u) : x = r ∧ ∃ p, u = .pointer (some p) := by
  unfold nilCheckT at h
  split at h <;> simp only [Option.some.injEq, reduceCtorEq] at h <;> subst h
  · simp only [RepT] at hu; obtain ⟨b, _, rfl⟩ := hu; exact ⟨rfl, _, rfl⟩
  · simp only [RepT, Rep] at hu; obtain ⟨b, _, rfl, _⟩ := hu; exact ⟨rfl, _, rfl⟩
  · simp only [RepT, Rep] at hu; subst hu; exact ⟨rfl, _, rfl⟩
end
end Go.Enc
