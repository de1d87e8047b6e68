/-
  One operation as a step of the state; regions; that the machine goes so.
-/
import Derived.Test.YtjlibljfpkmpfaaDoorMem5
namespace Go.Enc
open Go.RowKit

/-- What a call hands back: data, or a row that is the caller's own from now on. -/
inductive Res where
  | data (d : D)
  | own (e : TypeId) (size : Nat) (nn : Bool) (cells : List D)

def RepRes (σ : Mem) (base : Nat) (w : World) : Res → Value → Prop
  | .data d, u => Rep σ d u
  | .own e size nn cells, u => ∃ n us, w.ownsRow base e size u n us ∧ RepU σ cells us ∧ (∀ b, u.ownBlock = some b → ∀ i, σ b i = none) ∧ (nn = true → cells = [] → u = .slice none 0 0)

/-- What is known stays known; what was there is as it was; the result reads as told. -/
def After (σ : Mem) (w : World) (r : Res) (u : Value) (w' : World) : Prop :=
  ∃ σ' : Mem, σ.le σ' ∧ (∀ b o, b < w.heap.size → σ' b o = σ b o) ∧ (∀ b o v, σ' b o = some v → w'.cell? ⟨b, o, none⟩ = some v) ∧ (∀ b o v, w.heap.size ≤ b → σ' b o = some v → Soft w' b) ∧ Below w.heap.size w w' ∧ RepRes σ' w.heap.size w' r u

structure Fits (E : Nat → Option Value) (σ : Mem) (w : World) : Prop where
  inv : ∀ b o u, σ b o = some u → w.cell? ⟨b, o, none⟩ = some u
  glob : ∀ g u, E g = some u → σ g 0 = some u
  hard : ∀ b o u, σ b o = some u → E b = none → Soft w b
  gp : ∀ g t a, E g = some (.iface t (.pointer (some a))) → Hard w a.block

/-- THE CONTRACT OF A FUNCTION ON DATA. -/
def DCall (P : Program) (E : Nat → Option Value) (f : FuncId) (args : List D) (r : Res) : Prop :=
  ∀ (σ : Mem) (w : World) (us : List Value), Fits E σ w → RepL σ args us →
    ∀ (o : Oper) (a : Act) (next : Act → World → Prop) (Q : Exit → Act → World → Prop), (∀ u w', After σ w r u w' → next (a.put o.dst u) w') →
      o.upon P a next Q ((callFunc f us.toArray).run P w)

/-- The functions that are handed pointers to local blocks. -/
def isP (g : FuncId) : Bool := g == 18 || g == 68 || g == 69 || g == 70

/-- What a call of such a function makes of the caller's state. -/
def PCall (C : Ctx) (g : FuncId) (ts : List T) (dst : Option Nat) (s s' : St) : Prop :=
  ∀ σ G a w (us : List Value), Stands C σ G s a w → us.length = ts.length → (∀ (i : Nat) (c : T) (u : Value), ts[i]? = some c → us[i]? = some u → RepT σ G c u) → (∀ d, dst = some d → d < C.n) →
    ∀ (o : Oper) (next : Act → World → Prop) (Q : Exit → Act → World → Prop), o.dst = dst → (∀ σ' G' a' w', Stands C σ' G' s' a' w' → next a' w') → o.upon C.P a next Q ((callFunc g us.toArray).run C.P w)

def ws {α : Type} : Option α → (α → Prop) → Prop
  | some x, K => K x
  | none, _ => False
theorem ws_some {α : Type} (x : α) (K : α → Prop) : ws (some x) K = K x := rfl
theorem ws_spec {α : Type} {o : Option α} {K : α → Prop} (h : ws o K) : ∃ x, o = some x ∧ K x := by
  cases o with
  | none => exact h.elim
  | some x => exact ⟨x, rfl, h⟩

def yld (P : Program) (E : Nat → Option Value) (s : St) : Op → Option T
  | .move x => some (s.ev x)
  | .assign x => some (s.ev x)
  | .pick c x y => match s.ev c with
    | .d (.v (.bool t)) => some (if t then s.ev x else s.ev y)
    | _ => none
  | .load t x => loadT P E s.h t (s.ev x)
  | .fieldAddr t x f => fieldT P t f (s.ev x)
  | .indexAddr t x i => indexT P s.h t (s.ev x) (s.ev i)
  | .index t x i => arrIndexT P t (s.ev x) (s.ev i)
  | .slice t x lo hi mx => sliceT P t (lo.map s.ev) (hi.map s.ev) (mx.map s.ev) (s.ev x)
  | .extract x i => extractT i (s.ev x)
  | .binOp op t x y _ => if isNilOf y && !nilFits P t y then none else binT P s.h op t y (s.ev x) (s.ev y)
  | .unOp op _ x => unT op (s.ev x)
  | .convert src dst x => convT P src dst (s.ev x)
  | .makeInterface t x => mkIfaceT P t (s.ev x)
  | .nilCheck x => nilCheckT (s.ev x)
  | .build t parts => buildT P t (parts.toList.map fun p => (p.1, s.ev p.2))
  | .call { callee := .builtin .len, args, argTypes } => match args.toList, argTypes.toList with
    | [x], [t] => lenT P s.h t (s.ev x)
    | _, _ => none
  | .call { callee := .builtin .min, args, .. } => minmaxT false (args.toList.map s.ev)
  | .call { callee := .builtin .max, args, .. } => minmaxT true (args.toList.map s.ev)
  | _ => none

/-- A new row into a slot. -/
def St.row (s : St) (kb d : Nat) (o : Obj) : St := (s.new (kb + d) o).put (some d) (.gs (kb + d))
def St.var (s : St) (kb d : Nat) (cs : List T) : St := (s.new (kb + d) ⟨none, cs⟩).put (some d) (.ptr (kb + d) 0)

/-- append. -/
def appT (C : Ctx) (s : St) (d : Nat) (t : TypeId) (x y : T) (K : St → Prop) : Prop :=
  ws (slT C.P t) fun ⟨e, size, bytes, _⟩ => ws (srcT s.h size y) fun cs =>
    match x with
    | .d (.v (.slice none 0 0)) => cs.length / size * bytes ≤ 140737488355328 ∧ cs.length / size ≤ maxLen ∧ s.h (C.kb + d) = none ∧ K (s.row C.kb d ⟨some (e, size, true), cs⟩)
    | .gs k => match s.h k with
      | some ⟨some (e', size', nn), cells⟩ => e' = e ∧ size' = size ∧ (cells.length + cs.length) / size * bytes ≤ 140737488355328 ∧ (cells.length + cs.length) / size ≤ maxLen ∧ (s.kill k).h (C.kb + d) = none ∧
          K ((s.kill k).row C.kb d ⟨some (e, size, nn), (cells ++ cs).map (killT k)⟩)
      | _ => False
    | _ => False

def resT (C : Ctx) (s : St) (dst : Option Nat) (K : St → Prop) : Res → Prop
  | .data x => K (s.put dst (.d x))
  | .own e size nn cells => ws dst fun d => s.h (C.kb + d) = none ∧ K (s.row C.kb d ⟨some (e, size, nn), cells.map .d⟩)

/-- Two errors are compared. -/
def isErrCmp (y : Operand) (t : TypeId) : Bool := (match y with | .tmp _ => true | _ => false) && t == 33
/-- Two errors of errors.New's make: are they the same? -/
def SameErr (C : Ctx) (x y : T) (c : Bool) : Prop := ∃ a b, x = .d (.v (.iface 165 (.pointer (some a)))) ∧ y = .d (.v (.iface 165 (.pointer (some b)))) ∧
  ((a = b ∧ c = true) ∨ (a ≠ b ∧ c = false ∧ (∃ g, C.E g = some (.iface 165 (.pointer (some a)))) ∧ ∃ g, C.E g = some (.iface 165 (.pointer (some b)))))
/-- What the program says of the types error and *errors.errorString. -/
def errFacts (P : Program) : Prop := (∃ ms, P.underlying 33 = some (.interface ms)) ∧ P.underlying 165 = some (.pointer 187) ∧
  (P.info? 165).map (·.comparable) = some true ∧ (P.info? 187).map (·.size) = some 1

def run1 (C : Ctx) (o : Oper) (s : St) (K : St → Prop) : Prop :=
  match o.op with
  | .alloc t => ws o.dst fun d => ws (zeroT C.P t) fun cs => s.h (C.kb + d) = none ∧ K (s.var C.kb d cs)
  | .box _ x => ws o.dst fun d => ws (cellsT (s.ev x)) fun cs => s.h (C.kb + d) = none ∧ K (s.var C.kb d cs)
  | .buildSlice t len parts => ws o.dst fun d => ws (slT C.P t) fun ⟨e, size, _, _⟩ => 0 < len ∧ len * size ≤ 16777216 ∧
      ws (fillT (fun i => some (i * size, size)) (List.replicate (len * size) (.d .any)) (parts.toList.map fun p => (p.1, s.ev p.2))) fun cells => s.h (C.kb + d) = none ∧ K (s.row C.kb d ⟨some (e, size, false), cells⟩)
  | .makeSlice t l c => ws o.dst fun d => match slT C.P t, s.ev l, s.ev c with
    | some (e, size, bytes, z :: zs), .d (.v (.int .i64 n)), .d (.v (.int .i64 m)) => n = m ∧ 0 ≤ n ∧ allEq z (z :: zs) = true ∧ n.toNat * bytes ≤ 281474976710656 ∧ n.toNat ≤ maxLen ∧ s.h (C.kb + d) = none ∧
        K (s.row C.kb d ⟨some (e, size, false), List.replicate (n.toNat * size) (.d (.v z))⟩)
    | _, _, _ => False
  | .store t p x => match s.ev p with
    | .ptr k off => ws (s.h k) fun ob => ws (cellsT (s.ev x)) fun cs => szT C.P t = some cs.length ∧ off + cs.length ≤ ob.cells.length ∧ K ((s.setH k { ob with cells := setCells ob.cells off cs }).put o.dst (.d .any))
    | _ => False
  | .call { callee := .builtin .append, args, argTypes } => ws o.dst fun d => match args.toList, argTypes.toList with
    | [x, y], [t, t'] => t = t' ∧ appT C s d t (s.ev x) (s.ev y) K
    | _, _ => False
  | .call { callee := .value f, args, .. } => match s.ev f with
    | .d (.v (.func (.func g) fst cap)) => fst = #[] ∧ cap = #[] ∧ (if isP g then ∃ s', PCall C g (args.toList.map s.ev) o.dst s s' ∧ K s' else ws (asDs (args.toList.map s.ev)) fun ds => ∃ r, DCall C.P C.E g ds r ∧ resT C s o.dst K r)
    | _ => False
  | .binOp op t x y t' => if isErrCmp y t then errFacts C.P ∧ ∃ c, SameErr C (s.ev x) (s.ev y) c ∧ ((op = .eql ∧ K (s.put o.dst (.d (.v (.bool c))))) ∨ (op = .neq ∧ K (s.put o.dst (.d (.v (.bool !c))))))
    else ws (yld C.P C.E s (.binOp op t x y t')) fun r => K (s.put o.dst r)
  | op => ws (yld C.P C.E s op) fun r => K (s.put o.dst r)

/-- Does a guard let its operation by? -/
def gd : T → Bool → Option Bool
  | .d (.v (.bool c)), b => some (c == b)
  | .d (.v (.tuple _)), _ => some false
  | _, _ => none
def step (C : Ctx) (ops : Array Oper) (o : Oper) (s : St) (K : St → Prop) : Prop :=
  match o.guard with
  | none => run1 C o s K
  | some (j, b) => match (ops[j]?).bind (·.dst) with
    | some d => match gd (s.t d) b with
      | some true => run1 C o s K
      | some false => K (s.put o.dst (.d (.v undef)))
      | none => False
    | none => False

def steps (C : Ctx) (ops : Array Oper) : List Oper → St → (St → Prop) → Prop
  | [], s, K => K s
  | o :: r, s, K => step C ops o s fun s' => steps C ops r s' K

section
variable {C : Ctx} {σ : Mem} {G : Gh} {s : St} {a : Act} {w : World}

theorem RepT_list (S : Stands C σ G s a w) : ∀ (xs : List Operand), ∃ us, us = xs.map a.eval ∧ us.length = (xs.map s.ev).length ∧ ∀ (i : Nat) (c : T) (u : Value), (xs.map s.ev)[i]? = some c → us[i]? = some u → RepT σ G c u := by
  intro xs
  refine ⟨_, rfl, by simp, fun i c u hc hu => ?_⟩
  simp only [List.getElem?_map, Option.map_eq_some_iff] at hc hu
  obtain ⟨x, hx, rfl⟩ := hc
  obtain ⟨x', hx', rfl⟩ := hu
  rw [hx] at hx'; cases hx'
  exact S.ev x

theorem RepP_list (S : Stands C σ G s a w) : ∀ (ps : List (Nat × Operand)), RepP σ G (ps.map fun p => (p.1, s.ev p.2)) (ps.map fun p => (p.1, a.eval p.2)) ∧ ∀ p ∈ ps.map (fun p => (p.1, s.ev p.2)), ∀ j, p.2.ref = some j → s.h j ≠ none
  | [] => ⟨rfl, by simp⟩
  | p :: ps => by
    obtain ⟨h1, h2⟩ := RepP_list S ps
    refine ⟨⟨_, _, rfl, S.ev p.2, h1⟩, fun q hq => ?_⟩
    simp only [List.map_cons, List.mem_cons] at hq
    rcases hq with rfl | hq
    · exact S.evLive p.2
    · exact h2 q hq

theorem yld_sound (S : Stands C σ G s a w) {o : Oper} {r : T} (h : yld C.P C.E s o.op = some r) :
    ∃ u, (execOp a.eval o).run C.P w = .ok (.value u) w ∧ RepT σ G r u ∧ ∀ k, r.ref = some k → s.h k ≠ none := by
  have lift : ∀ (x : Sem Value) (u : Value), x.run C.P w = .ok u w → ((do pure (.value (← x)) : Sem Next)).run C.P w = .ok (.value u) w := fun x u h => by simp [h]
  unfold yld at h
  unfold execOp
  split at h
  · rename_i x hx
    rw [hx]
    cases h; exact ⟨_, rfl, S.ev x, S.evLive x⟩
  · rename_i x hx
    rw [hx]
    cases h; exact ⟨_, rfl, S.ev x, S.evLive x⟩
  · rename_i c x y hx
    rw [hx]
    split at h
    · rename_i t ht
      cases h
      have hc := S.ev c
      rw [ht] at hc
      simp only [RepT, Rep] at hc
      refine ⟨if t then a.eval x else a.eval y, by simp [hc, asBool], ?_, ?_⟩ <;> cases t <;> simp only [if_true, if_false, Bool.false_eq_true]
      · exact S.ev y
      · exact S.ev x
      · exact S.evLive y
      · exact S.evLive x
    · cases h
  · rename_i t x hx
    rw [hx]
    obtain ⟨u, h1, h2⟩ := loadT_sound S h (S.ev x)
    exact ⟨u, lift _ _ h1, h2⟩
  · rename_i t x f hx
    rw [hx]
    obtain ⟨u, h1, h2⟩ := fieldT_sound S h (S.ev x) (S.evLive x)
    exact ⟨u, lift _ _ h1, h2⟩
  · rename_i t x i hx
    rw [hx]
    obtain ⟨u, h1, h2⟩ := indexT_sound S h (S.ev x) (S.ev i)
    exact ⟨u, lift _ _ h1, h2⟩
  · rename_i t x i hx
    rw [hx]
    obtain ⟨u, h1, h2⟩ := arrIndexT_sound (C := C) (s := s) (w := w) h (S.ev x) (S.ev i)
    exact ⟨u, lift _ _ h1, h2⟩
  · rename_i t x lo hi mx hx
    rw [hx]
    obtain ⟨u, h1, h2⟩ := sliceT_sound S h (S.ev x) (vlo := lo.map a.eval) (vhi := hi.map a.eval) (vmx := mx.map a.eval) (by cases lo <;> simp [RepO]; exact S.ev _) (by cases hi <;> simp [RepO]; exact S.ev _) (by cases mx <;> simp)
    exact ⟨u, lift _ _ h1, h2⟩
  · rename_i x i hx
    rw [hx]
    obtain ⟨u, h1, h2⟩ := extractT_sound (C := C) (s := s) (w := w) h (S.ev x)
    exact ⟨u, lift _ _ h1, h2⟩
  · rename_i op t x y _ hx
    rw [hx]
    split at h
    · cases h
    · rename_i hn
      obtain ⟨u, h1, h2⟩ := binT_sound S (xo := x) h (fun hy => by simpa [hy] using hn) (S.ev x) (S.ev y) rfl
      exact ⟨u, lift _ _ h1, h2⟩
  · rename_i op _ x hx
    rw [hx]
    obtain ⟨u, h1, h2⟩ := unT_sound (C := C) (s := s) (w := w) h (S.ev x)
    exact ⟨u, lift _ _ h1, h2⟩
  · rename_i src dst x hx
    rw [hx]
    obtain ⟨u, h1, h2⟩ := convT_sound (s := s) (w := w) h (S.ev x)
    exact ⟨u, lift _ _ h1, h2⟩
  · rename_i t x hx
    rw [hx]
    obtain ⟨u, h1, h2⟩ := mkIfaceT_sound (w := w) h (S.ev x) (S.evLive x)
    exact ⟨u, lift _ _ h1, h2⟩
  · rename_i x hx
    rw [hx]
    obtain ⟨h1, p, h2⟩ := nilCheckT_spec h (S.ev x)
    refine ⟨a.eval x, by simp only [h2]; rfl, by rw [← h1]; exact S.ev x, by rw [← h1]; exact S.evLive x⟩
  · rename_i t parts hx
    rw [hx]
    obtain ⟨h1, h2⟩ := RepP_list S parts.toList
    obtain ⟨u, h3, h4⟩ := buildT_sound S h h1 h2
    refine ⟨u, lift _ _ ?_, h4⟩
    have : (parts.toList.map fun p => (p.1, a.eval p.2)).toArray = parts.map fun (i, x) => (i, a.eval x) := by
      rw [← Array.toArray_toList (xs := parts.map _)]; simp
    rw [← this]; exact h3
  · rename_i args argTypes hx
    rw [hx]
    split at h
    · rename_i x t hargs htys
      obtain ⟨u, h1, h2⟩ := lenT_sound S (ty := o.type) h (S.ev x)
      refine ⟨u, ?_, h2⟩
      have ha : args = #[x] := by rw [← Array.toArray_toList (xs := args), hargs]
      have ht : argTypes = #[t] := by rw [← Array.toArray_toList (xs := argTypes), htys]
      subst ha; subst ht
      simp [resolve, invoke, builtin, h1]
    · cases h
  · rename_i args argTypes hx
    rw [hx]
    obtain ⟨us, h0, h1, h2⟩ := RepT_list S args.toList
    obtain ⟨u, h3, h4⟩ := minmaxT_sound (C := C) (s := s) (w := w) h h1 h2 argTypes o.type
    refine ⟨u, ?_, h4⟩
    have : us.toArray = args.map a.eval := by rw [h0, ← Array.toArray_toList (xs := args.map _)]; simp
    rw [this] at h3
    simp only [Bool.false_eq_true, if_false] at h3
    simp [resolve, invoke, builtin, h3]
  · rename_i args argTypes hx
    rw [hx]
    obtain ⟨us, h0, h1, h2⟩ := RepT_list S args.toList
    obtain ⟨u, h3, h4⟩ := minmaxT_sound (C := C) (s := s) (w := w) h h1 h2 argTypes o.type
    refine ⟨u, ?_, h4⟩
    have : us.toArray = args.map a.eval := by rw [h0, ← Array.toArray_toList (xs := args.map _)]; simp
    rw [this] at h3
    simp only [if_true] at h3
    simp [resolve, invoke, builtin, h3]
  · cases h
end
end Go.Enc
