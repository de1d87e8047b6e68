/-
  A region that draws its order: gone through in the order of the text.
-/
import Derived.Test.YtjlibljfpkmpfaaDoorSim
namespace Go.Enc
open Go.RowKit

inductive Kd where
  | pure | reads | makes | stores | bar
  deriving DecidableEq

def kindOf : Op → Kd
  | .load _ (.global _) => .pure
  | .load .. | .indexAddr .. => .reads
  | .call { callee := .builtin .len, .. } => .reads
  | .call { callee := .builtin .min, .. } => .pure
  | .call { callee := .builtin .max, .. } => .pure
  | .call { callee := .value (.func g), .. } => if isP g then .bar else .makes
  | .binOp _ t _ y _ => if isErrCmp y t then .bar else if isNilOf y then .reads else .pure
  | .move _ | .assign _ | .pick .. | .fieldAddr .. | .index .. | .slice .. | .extract .. | .unOp .. | .convert .. | .makeInterface .. | .nilCheck _ | .build .. => .pure
  | .alloc _ | .box .. | .buildSlice .. => .makes
  | .store .. => .stores
  | _ => .bar

theorem isErrCmp_nil {y : Operand} {t : TypeId} (h : isNilOf y = true) : isErrCmp y t = false := by
  cases y <;> first | rfl | simp [isNilOf] at h

/-- What an operation does to the state. -/
inductive Ac where
  | put (d : Option Nat) (x : T)
  | mk (d k : Nat) (o : Obj) (x : T)
  | st (k : Nat) (o : Obj) (d : Option Nat)
def Ac.app (s : St) : Ac → St
  | .put d x => s.put d x
  | .mk d k o x => (s.new k o).put (some d) x
  | .st k o d => (s.setH k o).put d (.d .any)

def Does1 (C : Ctx) (o : Oper) (s : St) (ac : Ac) : Prop :=
  match o.op with
  | .alloc t => ∃ d cs, o.dst = some d ∧ zeroT C.P t = some cs ∧ s.h (C.kb + d) = none ∧ ac = .mk d (C.kb + d) ⟨none, cs⟩ (.ptr (C.kb + d) 0)
  | .box _ x => ∃ d cs, o.dst = some d ∧ cellsT (s.ev x) = some cs ∧ s.h (C.kb + d) = none ∧ ac = .mk d (C.kb + d) ⟨none, cs⟩ (.ptr (C.kb + d) 0)
  | .buildSlice t len parts => ∃ d e size bytes zs cells, o.dst = some d ∧ slT C.P t = some (e, size, bytes, zs) ∧ 0 < len ∧ len * size ≤ 16777216 ∧
      fillT (fun i => some (i * size, size)) (List.replicate (len * size) (.d .any)) (parts.toList.map fun p => (p.1, s.ev p.2)) = some cells ∧ s.h (C.kb + d) = none ∧ ac = .mk d (C.kb + d) ⟨some (e, size, false), cells⟩ (.gs (C.kb + d))
  | .store t p x => ∃ k off ob cs, s.ev p = .ptr k off ∧ s.h k = some ob ∧ cellsT (s.ev x) = some cs ∧ szT C.P t = some cs.length ∧ off + cs.length ≤ ob.cells.length ∧ ac = .st k { ob with cells := setCells ob.cells off cs } o.dst
  | .call { callee := .value f, args, .. } => ∃ g ds r, f = .func g ∧ isP g = false ∧ asDs (args.toList.map s.ev) = some ds ∧ DCall C.P C.E g ds r ∧
      ((∃ x, r = .data x ∧ ac = .put o.dst (.d x)) ∨ ∃ d e size nn cells, r = .own e size nn cells ∧ o.dst = some d ∧ s.h (C.kb + d) = none ∧ ac = .mk d (C.kb + d) ⟨some (e, size, nn), cells.map .d⟩ (.gs (C.kb + d)))
  | op => ∃ r, yld C.P C.E s op = some r ∧ ac = .put o.dst r

def Does (C : Ctx) (ops : Array Oper) (o : Oper) (s : St) (ac : Ac) : Prop :=
  match o.guard with
  | none => Does1 C o s ac
  | some (j, b) => ∃ d c, (ops[j]?).bind (·.dst) = some d ∧ gd (s.t d) b = some c ∧ if c = true then Does1 C o s ac else ac = .put o.dst (.d (.v undef))

structure WF (s : St) : Prop where
  live : ∀ i k, (s.t i).ref = some k → s.h k ≠ none
  deep : ∀ k o, s.h k = some o → ∀ c ∈ o.cells, ∀ k', c.ref = some k' → s.h k' ≠ none

section
variable {C : Ctx} {s : St} {ops : Array Oper} {o : Oper} {K : St → Prop}

theorem does1_of (ho : kindOf o.op ≠ .bar) (h : run1 C o s K) : ∃ ac, Does1 C o s ac ∧ K (ac.app s) := by
  obtain ⟨dst, op, ty, pos, after, guard⟩ := o
  have last : ∀ op', run1 C ⟨dst, op', ty, pos, after, guard⟩ s K = ws (yld C.P C.E s op') (fun r => K (s.put dst r)) → run1 C ⟨dst, op', ty, pos, after, guard⟩ s K →
      ∃ r, yld C.P C.E s op' = some r ∧ K (s.put dst r) := fun op' e h => by rw [e] at h; exact ws_spec h
  have mk : ∀ op', (∀ ac, Does1 C ⟨dst, op', ty, pos, after, guard⟩ s ac = ∃ r, yld C.P C.E s op' = some r ∧ ac = .put dst r) → (∃ r, yld C.P C.E s op' = some r ∧ K (s.put dst r)) →
      ∃ ac, Does1 C ⟨dst, op', ty, pos, after, guard⟩ s ac ∧ K (ac.app s) := fun op' e ⟨r, h1, h2⟩ => ⟨.put dst r, by rw [e]; exact ⟨r, h1, rfl⟩, h2⟩
  cases op with
  | alloc t =>
    obtain ⟨d, hd, h⟩ := ws_spec h
    obtain ⟨cs, hcs, h1, h2⟩ := ws_spec h
    exact ⟨_, ⟨d, cs, hd, hcs, h1, rfl⟩, h2⟩
  | box t x =>
    obtain ⟨d, hd, h⟩ := ws_spec h
    obtain ⟨cs, hcs, h1, h2⟩ := ws_spec h
    exact ⟨_, ⟨d, cs, hd, hcs, h1, rfl⟩, h2⟩
  | buildSlice t len parts =>
    obtain ⟨d, hd, h⟩ := ws_spec h
    obtain ⟨⟨e, size, bytes, zs⟩, hsl, h⟩ := ws_spec h
    simp only at h
    obtain ⟨h0, h1, h⟩ := h
    obtain ⟨cells, hf, hk, h⟩ := ws_spec h
    exact ⟨_, ⟨d, e, size, bytes, zs, cells, hd, hsl, h0, h1, hf, hk, rfl⟩, h⟩
  | store t p x =>
    simp only [run1] at h
    split at h
    · rename_i k off hp
      obtain ⟨ob, hob, h⟩ := ws_spec h
      obtain ⟨cs, hcs, h1, h2, h⟩ := ws_spec h
      exact ⟨_, ⟨k, off, ob, cs, hp, hob, hcs, h1, h2, rfl⟩, h⟩
    · exact h.elim
  | call c =>
    obtain ⟨callee, args, argTypes⟩ := c
    cases callee with
    | value f =>
      simp only [run1] at h
      have hP : ∀ g, s.ev f = .d (.v (.func (.func g) #[] #[])) → f = .func g ∧ isP g = false := fun g hg => by
        cases f with
        | func g' =>
          simp only [St.ev, T.d.injEq, D.v.injEq, Value.func.injEq, Fn.func.injEq] at hg
          obtain ⟨rfl, _⟩ := hg
          simp only [kindOf] at ho
          cases hb : isP g' with
          | false => exact ⟨rfl, rfl⟩
          | true => simp [hb] at ho
        | _ => simp [kindOf] at ho
      split at h
      · rename_i g fst cap hf
        obtain ⟨rfl, rfl, h⟩ := h
        obtain ⟨hfg, hg⟩ := hP g hf
        rw [if_neg (by simp [hg])] at h
        obtain ⟨ds, hds, r, hc, h⟩ := ws_spec h
        cases r with
        | data x => exact ⟨_, ⟨g, ds, _, hfg, hg, hds, hc, .inl ⟨x, rfl, rfl⟩⟩, h⟩
        | own e size nn cells =>
          simp only [resT] at h
          obtain ⟨d, hd, hk, h⟩ := ws_spec h
          exact ⟨_, ⟨g, ds, _, hfg, hg, hds, hc, .inr ⟨d, e, size, nn, cells, rfl, hd, hk, rfl⟩⟩, h⟩
      · exact h.elim
    | invoke _ _ => simp [kindOf] at ho
    | builtin b =>
      cases b with
      | len => exact mk _ (fun _ => rfl) (last _ rfl h)
      | min => exact mk _ (fun _ => rfl) (last _ rfl h)
      | max => exact mk _ (fun _ => rfl) (last _ rfl h)
      | _ => simp [kindOf] at ho
  | makeSlice t l c => simp [kindOf] at ho
  | binOp op t x y t' =>
    have hb : isErrCmp y t = false := by
      simp only [kindOf] at ho
      cases hb : isErrCmp y t with
      | false => rfl
      | true => simp [hb] at ho
    exact mk _ (fun _ => rfl) (last _ (by simp only [run1, hb, Bool.false_eq_true, if_false]) h)
  | _ => exact mk _ (fun _ => rfl) (last _ rfl h)

theorem of_does1 (ho : kindOf o.op ≠ .bar) {ac : Ac} (h : Does1 C o s ac) (hk : K (ac.app s)) : run1 C o s K := by
  obtain ⟨dst, op, ty, pos, after, guard⟩ := o
  have last : ∀ op', (Does1 C ⟨dst, op', ty, pos, after, guard⟩ s ac = ∃ r, yld C.P C.E s op' = some r ∧ ac = .put dst r) → Does1 C ⟨dst, op', ty, pos, after, guard⟩ s ac → ws (yld C.P C.E s op') (fun r => K (s.put dst r)) := fun op' e h => by
    rw [e] at h
    obtain ⟨r, h1, rfl⟩ := h
    rw [h1]; exact hk
  cases op with
  | alloc t =>
    obtain ⟨d, cs, h1, h2, h3, rfl⟩ := h
    change dst = some d at h1
    subst h1
    simp only [run1, h2, ws]
    exact ⟨h3, hk⟩
  | box t x =>
    obtain ⟨d, cs, h1, h2, h3, rfl⟩ := h
    change dst = some d at h1
    subst h1
    simp only [run1, h2, ws]
    exact ⟨h3, hk⟩
  | buildSlice t len parts =>
    obtain ⟨d, e, size, bytes, zs, cells, h1, h2, h3, h4, h5, h6, rfl⟩ := h
    change dst = some d at h1
    subst h1
    simp only [run1, h2, ws, h5]
    exact ⟨h3, h4, h6, hk⟩
  | store t p x =>
    obtain ⟨k, off, ob, cs, h1, h2, h3, h4, h5, rfl⟩ := h
    simp only [run1, h1, h2, ws, h3]
    exact ⟨h4, h5, hk⟩
  | call c =>
    obtain ⟨callee, args, argTypes⟩ := c
    cases callee with
    | value f =>
      obtain ⟨g, ds, r, h1, hg, h2, h3, h4⟩ := h
      subst h1
      simp only [run1, St.ev, h2, ws, hg, Bool.false_eq_true, if_false]
      refine ⟨trivial, trivial, r, h3, ?_⟩
      rcases h4 with ⟨x, rfl, rfl⟩ | ⟨d, e, size, nn, cells, rfl, h5, h6, rfl⟩
      · exact hk
      · change dst = some d at h5
        subst h5
        simp only [resT, ws]
        exact ⟨h6, hk⟩
    | invoke _ _ => simp [kindOf] at ho
    | builtin b =>
      cases b with
      | len => exact last _ rfl h
      | min => exact last _ rfl h
      | max => exact last _ rfl h
      | _ => simp [kindOf] at ho
  | makeSlice t l c => simp [kindOf] at ho
  | binOp op t x y t' =>
    have hb : isErrCmp y t = false := by
      simp only [kindOf] at ho
      cases hb : isErrCmp y t with
      | false => rfl
      | true => simp [hb] at ho
    simp only [run1, hb, Bool.false_eq_true, if_false]
    exact last _ rfl h
  | _ => exact last _ rfl h

theorem does_of (ho : kindOf o.op ≠ .bar) (h : step C ops o s K) : ∃ ac, Does C ops o s ac ∧ K (ac.app s) := by
  unfold step at h
  unfold Does
  split at h
  · rename_i hg; simp only [hg]; exact does1_of ho h
  · rename_i j b hg
    simp only [hg]
    split at h
    · rename_i d hd
      split at h
      · rename_i e
        obtain ⟨ac, h1, h2⟩ := does1_of ho h
        exact ⟨ac, ⟨d, true, hd, e, by rw [if_pos rfl]; exact h1⟩, h2⟩
      · rename_i e
        exact ⟨.put o.dst (.d (.v undef)), ⟨d, false, hd, e, by rw [if_neg (by simp)]⟩, h⟩
      · exact h.elim
    · exact h.elim

theorem of_does (ho : kindOf o.op ≠ .bar) {ac : Ac} (h : Does C ops o s ac) (hk : K (ac.app s)) : step C ops o s K := by
  unfold Does at h
  unfold step
  split at h
  · rename_i hg; simp only [hg]; exact of_does1 ho h hk
  · rename_i j b hg
    obtain ⟨d, c, hd, hc, h⟩ := h
    simp only [hg, hd, hc]
    cases c with
    | true => rw [if_pos rfl] at h; exact of_does1 ho h hk
    | false => rw [if_neg (by simp)] at h; subst h; exact hk

/-- What an operation does hangs on the slots that it looks at, and on the blocks that these lead to. -/
theorem cellsT_refs {c : T} {cs : List T} (h : cellsT c = some cs) : ∀ c' ∈ cs, ∀ k, c'.ref = some k → c.ref = some k := by
  unfold cellsT at h
  split at h
  · cases h
    intro c' hc' k hk
    simp only [List.mem_map] at hc'
    obtain ⟨d, _, rfl⟩ := hc'
    simp [T.ref] at hk
  · split at h
    · cases h
      intro c' hc' k hk
      simp at hc'; subst hc'; exact hk
    · cases h
  · cases h
    intro c' hc' k hk
    simp at hc'; subst hc'; exact hk
end
end Go.Enc
