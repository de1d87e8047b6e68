/-
  Arithmetic, comparisons, conversions: what they yield, as data.
-/
import Derived.Test.YtjlibljfpkmpfaaDoorOps2
import Derived.Laws.FloatArith
namespace Go.Enc
open Go.RowKit

def pint (op : BinOp) (k : IntKind) (a b : Int) : Option Value :=
  match op with
  | .add => some (.int k (k.wrap (a + b)))
  | .sub => some (.int k (k.wrap (a - b)))
  | .mul => some (.int k (k.wrap (a * b)))
  | .quo => if b = 0 then none else some (.int k (k.wrap (a.tdiv b)))
  | .rem => if b = 0 then none else some (.int k (a.tmod b))
  | .and => some (.int k (k.wrap (BitVec.ofInt k.bits a &&& BitVec.ofInt k.bits b).toNat))
  | .or => some (.int k (k.wrap (BitVec.ofInt k.bits a ||| BitVec.ofInt k.bits b).toNat))
  | .andNot => some (.int k (k.wrap (BitVec.ofInt k.bits a &&& ~~~ BitVec.ofInt k.bits b).toNat))
  | .eql => some (.bool (a == b))
  | .neq => some (.bool (a != b))
  | .lss => some (.bool (decide (a < b)))
  | .leq => some (.bool (decide (a ≤ b)))
  | .gtr => some (.bool (decide (a > b)))
  | .geq => some (.bool (decide (a ≥ b)))
  | _ => none

def pshift (op : BinOp) (k : IntKind) (a b : Int) : Option Value :=
  if b < 0 then none else
  match op with
  | .shl => some (.int k (k.wrap (a * 2 ^ (min b.toNat k.bits))))
  | .shr => some (.int k (a.fdiv (2 ^ (min b.toNat k.bits))))
  | _ => none

def isShift : BinOp → Bool
  | .shl | .shr => true
  | _ => false

def pfloat (op : BinOp) (k : FloatKind) (a b : Nat) : Option Value :=
  match op with
  | .add => (k.format.add a b).map (.float k)
  | .sub => (k.format.sub a b).map (.float k)
  | .mul => (k.format.mul a b).map (.float k)
  | .quo => (k.format.div a b).map (.float k)
  | .eql => some (.bool (k.format.order a b == some .eq))
  | .neq => some (.bool (k.format.order a b != some .eq))
  | .lss => some (.bool (k.format.order a b == some .lt))
  | .leq => some (.bool (k.format.order a b == some .lt || k.format.order a b == some .eq))
  | .gtr => some (.bool (k.format.order a b == some .gt))
  | .geq => some (.bool (k.format.order a b == some .gt || k.format.order a b == some .eq))
  | _ => none

/-- Two cells of one struct: its two fields are of one cell, integers (true) or floats (false). -/
def one2 (P : Program) (t : TypeId) : Option Bool :=
  match P.underlying t with
  | some (.int _) => some true
  | some (.float _) => some false
  | _ => none
def eq2T (P : Program) (t : TypeId) : Option (Bool × Bool) :=
  match P.underlying t with
  | some (.struct fs) => match fs.toList with
    | [f, g] => if f.offset = 0 ∧ g.offset = 1 ∧ f.name ≠ "_" ∧ g.name ≠ "_" ∧ P.stoodInHeld t = false ∧ P.eqGuardType P.depth t = false then
        match one2 P f.type, one2 P g.type with
        | some p, some q => some (p, q)
        | _, _ => none
      else none
    | _ => none
  | _ => none
def ceq : Bool → D → D → Option Bool
  | true, .v (.int k a), .v (.int k' b) => if k = k' then some (a == b) else none
  | false, .v (.float k a), .v (.float k' b) => if k = k' then some (k.format.order a b == some .eq) else none
  | _, _, _ => none
def eqAgg (P : Program) (t : TypeId) : List D → List D → Option Bool
  | [a, b], [a', b'] => match eq2T P t with
    | some (p, q) => match ceq p a a', ceq q b b' with
      | some x, some y => some (x && y)
      | _, _ => none
    | none => none
  | _, _ => none

/-- Is it the nil of its type? -/
def isNilT (P : Program) (h : Nat → Option Obj) (t : TypeId) (x : T) : Option Bool :=
  match P.underlying t with
  | some (.interface _) => match x with
    | .d (.v .nilIface) => some true
    | .d (.v (.iface _ _)) => some false
    | .d (.ip _ _) => some false
    | .ipr _ _ => some false
    | _ => none
  | some (.slice _) => match x with
    | .d (.v (.slice none 0 0)) => some true
    | .d (.sl _ (_ :: _)) => some false
    | .gs k => match h k with
      | some ⟨some (_, _, nn), cells⟩ => match cells, nn with
        | [], true => some true
        | _ :: _, _ => some false
        | _, _ => none
      | _ => none
    | _ => none
  | some (.func _ _ _) => match x with
    | .d (.v .nilFunc) => some true
    | .d (.v (.func _ _ _)) => some false
    | _ => none
  | _ => none
def isNilOf : Operand → Bool
  | .const .nilIface | .const (.slice none 0 0) | .const .nilFunc => true
  | _ => false

def binT (P : Program) (h : Nat → Option Obj) (op : BinOp) (t : TypeId) (yo : Operand) (x y : T) : Option T :=
  if isNilOf yo then match op with
    | .eql => (isNilT P h t x).map fun b => .d (.v (.bool b))
    | .neq => (isNilT P h t x).map fun b => .d (.v (.bool (!b)))
    | _ => none
  else match x, y with
  | .d (.v (.int k a)), .d (.v (.int k' b)) => if isShift op then (pshift op k a b).map fun v => .d (.v v) else if k = k' then (pint op k a b).map fun v => .d (.v v) else none
  | .d (.v (.float k a)), .d (.v (.float k' b)) => if isShift op then none else if k = k' then (pfloat op k a b).map fun v => .d (.v v) else none
  | .d (.v (.string a)), .d (.v (.string b)) => match op with
    | .eql => some (.d (.v (.bool (a.toList == b.toList))))
    | .neq => some (.d (.v (.bool (!(a.toList == b.toList)))))
    | _ => none
  | .d (.v (.bool a)), .d (.v (.bool b)) => match P.underlying t, op with
    | some .bool, .eql => some (.d (.v (.bool (a == b))))
    | some .bool, .neq => some (.d (.v (.bool (!(a == b)))))
    | _, _ => none
  | .d (.agg as), .d (.agg bs) => match op with
    | .eql => (eqAgg P t as bs).map fun b => .d (.v (.bool b))
    | .neq => (eqAgg P t as bs).map fun b => .d (.v (.bool (!b)))
    | _ => none
  | _, _ => none

def unT (op : UnOp) : T → Option T
  | .d (.v (.int k n)) => match op with
    | .neg => some (.d (.v (.int k (k.wrap (0 - n)))))
    | _ => none
  | .d (.v (.float k b)) => match op with
    | .neg => some (.d (.v (.float k (Op.negFloat k b))))
    | _ => none
  | .d (.v (.bool b)) => match op with
    | .not => some (.d (.v (.bool !b)))
    | _ => none
  | _ => none

def convT (P : Program) (src dst : TypeId) : T → Option T
  | .d (.v (.int _ n)) => match P.underlying src, P.underlying dst with
    | some _, some (.int k) => some (.d (.v (.int k (k.wrap n))))
    | some _, some (.float k) => some (.d (.v (.float k (k.nearest n))))
    | _, _ => none
  | .d (.v (.float f b)) => match P.underlying src, P.underlying dst with
    | some _, some (.int k) => (floatToIntVal f b k).map fun n => .d (.v (.int k n))
    | some _, some (.float k) => if f = k then some (.d (.v (.float f b))) else none
    | _, _ => none
  | _ => none

def pickF (mx : Bool) (x y : Nat) : Option Nat :=
  match FloatKind.f64.format.order x y with
  | none => none
  | some .lt => some (if mx then y else x)
  | some .gt => some (if mx then x else y)
  | some .eq => some (if (FloatKind.f64.decode x).neg then (if mx then y else x) else (if mx then x else y))
def foldF (mx : Bool) : Nat → List T → Option Nat
  | x, [] => some x
  | x, .d (.v (.float .f64 y)) :: r => (pickF mx x y).bind fun z => foldF mx z r
  | _, _ => none
def minmaxT (mx : Bool) : List T → Option T
  | .d (.v (.float .f64 x)) :: r => (foldF mx x r).map fun z => .d (.v (.float .f64 z))
  | _ => none

def mkIfaceT (P : Program) (t : TypeId) (x : T) : Option T :=
  match P.underlying t with
  | some (.pointer _) => match x with
    | .ptr k 0 => some (.ipr t k)
    | .d (.v v) => some (.d (.v (.iface t v)))
    | _ => none
  | some (.int _) => match x with
    | .d (.v v) => some (.d (.v (.iface t v)))
    | _ => none
  | _ => none

def nilCheckT : T → Option T
  | .ptr k o => some (.ptr k o)
  | .d (.pd cells o) => some (.d (.pd cells o))
  | .d (.v (.pointer (some p))) => some (.d (.v (.pointer (some p))))
  | _ => none

section
variable {C : Ctx} {σ : Mem} {G : Gh} {s : St} {a : Act} {w : World}

theorem run_pint {P : Program} {op : BinOp} {t : TypeId} {k : IntKind} {x y : Int} {v : Value} (hs : isShift op = false) (h : pint op k x y = some v) :
    (binOp op t (.int k x) (.int k y)).run P w = .ok v w := by
  cases op <;> simp [pint, isShift] at h hs <;> (try subst h) <;>
    first
      | (simp [binOp, Op.intArith]; done)
      | (simp [binOp, Op.intCmp]; done)
      | (simp [binOp, Op.intBits]; done)
      | (obtain ⟨h0, h⟩ := h; subst h; simp [binOp, Op.intDiv, h0]; done)

theorem run_pshift {P : Program} {op : BinOp} {t : TypeId} {k k' : IntKind} {x y : Int} {v : Value} (hs : isShift op = true) (h : pshift op k x y = some v) :
    (binOp op t (.int k x) (.int k' y)).run P w = .ok v w := by
  unfold pshift at h
  split at h
  · cases h
  · rename_i h0
    cases op <;> simp [isShift] at hs <;> simp at h <;> subst h <;> simp [binOp, Op.shift, h0]

theorem run_pfloat {P : Program} {op : BinOp} {t : TypeId} {k : FloatKind} {x y : Nat} {v : Value} (h : pfloat op k x y = some v) :
    (binOp op t (.float k x) (.float k y)).run P w = .ok v w := by
  cases op <;> simp only [pfloat, Option.map_eq_some_iff, Option.some.injEq] at h <;>
    first
      | (cases h; done)
      | (obtain ⟨r, h, rfl⟩ := h; simp [binOp, Op.floatArith, h]; done)
      | (subst h; simp [binOp, Op.floatCmp]; done)

theorem run_eqGuard_other {P : Program} {op : BinOp} {t : TypeId} {x y : Operand} {u v : Value} (h1 : u ≠ .nilIface ∨ v ≠ .nilIface) (h2 : (∀ c, u ≠ .agg c) ∨ ∀ c, v ≠ .agg c) :
    (eqGuard op t x y u v).run P w = .ok () w := by
  by_cases hop : op = .eql ∨ op = .neq
  · rcases hop with rfl | rfl <;> unfold eqGuard <;> simp only [Bool.not_true, Bool.false_eq_true, if_false] <;> split <;> first | rfl | (exfalso; simp_all; done)
  · cases op <;> simp at hop <;> rfl
theorem run_eqGuard_nil {P : Program} {op : BinOp} {t : TypeId} {x y : Operand} {u v : Value} (hy : isNilOf y = true) (hv : ∀ c, v ≠ .agg c) :
    (eqGuard op t x y u v).run P w = .ok () w := by
  have : ∃ z, y = .const z := by unfold isNilOf at hy; split at hy <;> simp_all
  obtain ⟨z, rfl⟩ := this
  by_cases hop : op = .eql ∨ op = .neq
  · rcases hop with rfl | rfl <;> unfold eqGuard <;> simp only [Bool.not_true, Bool.false_eq_true, if_false] <;> split <;> first | rfl | (exfalso; simp_all; done) | (simp; done)
  · cases op <;> simp at hop <;> rfl

section
variable {P : Program} {t : TypeId}
theorem eqIn_iface {ms : Array (String × TypeId)} (h : P.underlying t = some (.interface ms)) (d : Nat) :
    (Op.equalIn (d + 1) t .nilIface .nilIface).run P w = .ok true w ∧ ∀ t' v, (Op.equalIn (d + 1) t (.iface t' v) .nilIface).run P w = .ok false w :=
  ⟨by simp [Op.equalIn, run_underlying h], fun t' v => by simp [Op.equalIn, run_underlying h]⟩
theorem eqIn_slice {e : TypeId} (h : P.underlying t = some (.slice e)) (d : Nat) :
    (Op.equalIn (d + 1) t (.slice none 0 0) (.slice none 0 0)).run P w = .ok true w ∧ ∀ x n c, (Op.equalIn (d + 1) t (.slice (some x) n c) (.slice none 0 0)).run P w = .ok false w :=
  ⟨by simp [Op.equalIn, run_underlying h], fun x n c => by simp [Op.equalIn, run_underlying h]⟩
theorem eqIn_func {ps rs : Array TypeId} {v : Bool} (h : P.underlying t = some (.func ps rs v)) (d : Nat) :
    (Op.equalIn (d + 1) t .nilFunc .nilFunc).run P w = .ok true w ∧ ∀ f x c, (Op.equalIn (d + 1) t (.func f x c) .nilFunc).run P w = .ok false w :=
  ⟨by simp [Op.equalIn, run_underlying h], fun f x c => by simp [Op.equalIn, run_underlying h]⟩
theorem eqIn_bool (h : P.underlying t = some .bool) (d : Nat) (a b : Bool) : (Op.equalIn (d + 1) t (.bool a) (.bool b)).run P w = .ok (a == b) w := by
  simp [Op.equalIn, run_underlying h]
theorem eqIn_int {k : IntKind} (h : P.underlying t = some (.int k)) (d : Nat) (k' : IntKind) (a b : Int) : (Op.equalIn (d + 1) t (.int k' a) (.int k' b)).run P w = .ok (a == b) w := by
  simp [Op.equalIn, run_underlying h]
theorem eqIn_float {k : FloatKind} (h : P.underlying t = some (.float k)) (d : Nat) (k' : FloatKind) (a b : Nat) : (Op.equalIn (d + 1) t (.float k' a) (.float k' b)).run P w = .ok (k'.format.order a b == some .eq) w := by
  simp [Op.equalIn, run_underlying h, Op.floatEq]
end

theorem run_equal_nil {t : TypeId} (S : Stands C σ G s a w) {x : T} {b : Bool} (hb : isNilT C.P s.h t x = some b) {u v : Value} (hu : RepT σ G x u)
    (hok : match C.P.underlying t with | some (.interface _) => v = .nilIface | some (.slice _) => v = .slice none 0 0 | some (.func _ _ _) => v = .nilFunc | _ => False) :
    (Op.equal t u v).run C.P w = .ok b w := by
  change (Op.equalIn (9999 + 1) t u v).run C.P w = .ok b w
  unfold isNilT at hb
  split at hb
  · rename_i ms hms
    rw [hms] at hok; simp only at hok; subst hok
    have e := eqIn_iface (w := w) hms 9999
    split at hb <;> simp only [Option.some.injEq, reduceCtorEq] at hb <;> subst hb
    · simp only [RepT, Rep] at hu; subst hu; exact e.1
    · simp only [RepT, Rep] at hu; subst hu; exact e.2 _ _
    · simp only [RepT, Rep] at hu; obtain ⟨b, o, rfl, _⟩ := hu; exact e.2 _ _
    · simp only [RepT] at hu; obtain ⟨b, _, rfl⟩ := hu; exact e.2 _ _
  · rename_i e he
    rw [he] at hok; simp only at hok; subst hok
    have e := eqIn_slice (w := w) he 9999
    split at hb
    · simp only [Option.some.injEq] at hb; subst hb
      simp only [RepT, Rep] at hu; subst hu; exact e.1
    · simp only [Option.some.injEq] at hb; subst hb
      simp only [RepT, Rep] at hu
      rcases hu with ⟨_, hu⟩ | ⟨b, o, len, cap, rfl, _⟩ | ⟨_, _, _, hu, _⟩
      · cases hu
      · exact e.2 _ _ _
      · cases hu
    · rename_i k
      split at hb
      · rename_i e' sz nn cells ho
        have H := S.obj _ _ ho
        simp only [ObjIs] at H
        obtain ⟨m, us, ⟨hx, hor⟩, h2, h3, h4⟩ := H
        simp only [RepT] at hu
        split at hb
        · simp only [Option.some.injEq] at hb; subst hb
          rw [hu, h4 rfl rfl]; exact e.1
        · simp only [Option.some.injEq] at hb; subst hb
          rcases hor with ⟨hnil, rfl⟩ | ⟨g, cap, cur, hval, _⟩
          · have := h2.length; simp [hx] at this
          · rw [hu, hval]; exact e.2 _ _ _
        · cases hb
      · cases hb
    · cases hb
  · rename_i ps rs vr he
    rw [he] at hok; simp only at hok; subst hok
    have e := eqIn_func (w := w) he 9999
    split at hb <;> simp only [Option.some.injEq, reduceCtorEq] at hb <;> subst hb
    · simp only [RepT, Rep] at hu; subst hu; exact e.1
    · simp only [RepT, Rep] at hu; subst hu; exact e.2 _ _ _
  · cases hb

theorem ceq_sound {P : Program} {t : TypeId} {p q : Bool} (ht : one2 P t = some p) {x y : D} (h : ceq p x y = some q) {u v : Value} (hu : Rep σ x u) (hv : Rep σ y v) (d : Nat) :
    (Op.equalIn (d + 1) t u v).run P w = .ok q w ∧ agT P t = some false := by
  unfold one2 at ht
  split at ht
  · rename_i k hk
    cases ht
    unfold ceq at h
    split at h
    · split at h
      · rename_i hkk; subst hkk; cases h
        simp only [Rep] at hu hv; subst hu; subst hv
        exact ⟨eqIn_int hk d _ _ _, by simp [agT, hk]⟩
      · cases h
    · contradiction
    · cases h
  · rename_i k hk
    cases ht
    unfold ceq at h
    split at h
    · contradiction
    · split at h
      · rename_i hkk; subst hkk; cases h
        simp only [Rep] at hu hv; subst hu; subst hv
        exact ⟨eqIn_float hk d _ _ _, by simp [agT, hk]⟩
      · cases h
    · cases h
  · cases ht

theorem isNilOf_val {y : Operand} (h : isNilOf y = true) (s : St) (a : Act) : (a.eval y = .nilIface ∨ a.eval y = .slice none 0 0 ∨ a.eval y = .nilFunc) ∧ ∃ v, y = .const v ∧ a.eval y = v := by
  unfold isNilOf at h
  split at h <;> simp_all [Act.eval]

/-- The literal nil fits the operand's type. -/
def nilFits (P : Program) (t : TypeId) (y : Operand) : Bool :=
  match P.underlying t, y with
  | some (.interface _), .const .nilIface => true
  | some (.slice _), .const (.slice none 0 0) => true
  | some (.func _ _ _), .const .nilFunc => true
  | _, _ => false
theorem nilFits_spec {P : Program} {t : TypeId} {y : Operand} (h : nilFits P t y = true) (a : Act) :
    match P.underlying t with | some (.interface _) => a.eval y = .nilIface | some (.slice _) => a.eval y = .slice none 0 0 | some (.func _ _ _) => a.eval y = .nilFunc | _ => False := by
  unfold nilFits at h
  split at h <;> simp_all [Act.eval]

theorem run_eqAgg {P : Program} {t : TypeId} {as bs : List D} {q : Bool} (h : eqAgg P t as bs = some q) {us vs : Array Value} (hu : RepU σ as us.toList) (hv : RepU σ bs vs.toList) :
    (Op.equal t (.agg us) (.agg vs)).run P w = .ok q w ∧ P.eqGuardType P.depth t = false := by
  unfold eqAgg at h
  split at h
  · rename_i a0 b0 a1 b1
    split at h
    · rename_i p q' ht
      split at h
      · rename_i x y hx hy
        cases h
        unfold eq2T at ht
        split at ht
        · rename_i fs hfs
          split at ht
          · rename_i f g hfg
            split at ht
            · rename_i hc
              obtain ⟨h1, h2, h3, h4, h5, h6⟩ := hc
              split at ht
              · rename_i p' q'' hp hq
                cases ht
                simp only [RepU] at hu hv
                obtain ⟨u0, _, hu0, _, ru0, u1, _, rfl, _, ru1, rfl⟩ := hu
                obtain ⟨v0, _, hv0, _, rv0, v1, _, rfl, _, rv1, rfl⟩ := hv
                have e0 := ceq_sound (w := w) hp hx ru0 rv0 9998
                have e1 := ceq_sound (w := w) hq hy ru1 rv1 9998
                have hus : us = #[u0, u1] := by rw [← Array.toArray_toList (xs := us), hu0]
                have hvs : vs = #[v0, v1] := by rw [← Array.toArray_toList (xs := vs), hv0]
                have hfs' : fs = #[f, g] := by rw [← Array.toArray_toList (xs := fs), hfg]
                subst hus; subst hvs; subst hfs'
                have p0 : ∀ (z0 z1 : Value), (part f.type #[z0, z1] f.offset).run P w = .ok z0 w := fun z0 z1 => by simp [part, run_agT e0.2, h1]
                have p1 : ∀ (z0 z1 : Value), (part g.type #[z0, z1] g.offset).run P w = .ok z1 w := fun z0 z1 => by simp [part, run_agT e1.2, h2]
                refine ⟨?_, h6⟩
                have key : ∀ d, (Op.equalIn (d + 1 + 1) t (.agg #[u0, u1]) (.agg #[v0, v1])).run P w = .ok (x && y) w := fun d => by
                  have e0' := (ceq_sound (w := w) hp hx ru0 rv0 d).1
                  have e1' := (ceq_sound (w := w) hq hy ru1 rv1 d).1
                  rw [Op.equalIn]
                  cases x <;> cases y <;> simp [run_underlying hfs, h5, h3, h4, p0, p1, e0', e1']
                exact key 9998
              · cases ht
            · cases ht
          · cases ht
        · cases ht
      · cases h
    · cases h
  · cases h
end
end Go.Enc
