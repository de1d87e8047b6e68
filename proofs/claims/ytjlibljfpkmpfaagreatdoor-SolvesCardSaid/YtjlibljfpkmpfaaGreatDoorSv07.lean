/-
  The equations by which a body is gone through.
-/
import Derived.Test.YtjlibljfpkmpfaaGreatDoorSv06
namespace Go.Enc
open Go.RowKit
/-- The body as a proposition of its own: nothing looks into it but by these equations. -/
structure DC (C : Ctx) (c : Code) (Q : Exit → St → Prop) (s : St) : Prop where
  ok : dcode C c Q s
structure ST (C : Ctx) (ops : Array Oper) (l : List Oper) (s : St) (K : St → Prop) : Prop where
  ok : steps C ops l s K
theorem DC_eq : DC = dcode := by funext C c Q s; exact propext ⟨fun h => h.ok, fun h => ⟨h⟩⟩
theorem ST_eq : ST = steps := by funext C c Q s K; exact propext ⟨fun h => h.ok, fun h => ⟨h⟩⟩
theorem dwp_loop {C : Ctx} {Q : Exit → St → Prop} {s : St} {α : Type} {c : Code} (Sx : α → St) (μ : α → Nat) (x0 : α) (h0 : Weak s (Sx x0)) (hf : fitsC C.n c = true)
    (round : ∀ x, DC C c (Thn (fun s' => ∃ x', Weak s' (Sx x') ∧ μ x' < μ x) Q) (Sx x)) : DWp C (.loop c) Q s := dwp_loop_ Sx μ x0 h0 hf fun x => (round x).ok
theorem dcall_of {P : Program} {E : Nat → Option Value} {f : FuncId} {fn : Func} {c : Code} {args : List D} {r : Res} (hf : P.funcs[f]? = some fn) (hb : fn.body = some c) (hname : (fn.name == "runtime.NumGoroutine") = false)
    {n : Nat} (hn : fn.ntmps = n) (hfit : fitsC n c = true) (ha : args.length ≤ n) {rs : List ResultVar} (hrs : fn.results.toList = rs)
    (h : ∀ C : Ctx, C.P = P → C.E = E → C.n = n → C.kb = 0 → DC C c (Post C rs r) (St.init args)) : DCall P E f args r := dcall_of_ hf hb hname hn hfit ha hrs fun C h1 h2 h3 h4 => (h C h1 h2 h3 h4).ok
/-- A call: what it is handed, and what becomes of its result. -/
def callT (C : Ctx) (g : FuncId) (xs : Option (List D)) (k : Res → Prop) : Prop := ws xs fun ds => ∃ r, DCall C.P C.E g ds r ∧ k r
/-- THE WALK STANDS HERE: what is behind is not looked into. -/
structure Hd (p : Prop) : Type where
def Stop (p : Prop) (_ : Hd p) : Prop := p
theorem Stop.intro {p : Prop} {x : Hd p} (h : p) : Stop p x := h
@[congr] theorem ws_congr {α : Type} {o o' : Option α} (K : α → Prop) (h : o = o') : ws o K = ws o' K := by rw [h]
/-- A condition; what is behind it is not looked into. -/
def condS (t : T) (p q : Prop) (_ : Hd p) (_ : Hd q) : Prop := condT t p q
@[congr] theorem callT_congr {C : Ctx} {g : FuncId} {xs ys : Option (List D)} (k : Res → Prop) (h : xs = ys) : callT C g xs k = callT C g ys k := by rw [h]
def ErrCmp (C : Ctx) (x y : T) (k : Bool → Prop) (_ : Hd (∃ c, k c)) : Prop := errFacts C.P ∧ ∃ c, SameErr C x y c ∧ k c
theorem ErrCmp.intro {C : Ctx} {x y : T} {k : Bool → Prop} {z : Hd (∃ c, k c)} (hf : errFacts C.P) (c : Bool) (h : SameErr C x y c) (hk : k c) : ErrCmp C x y k z := ⟨hf, c, h, hk⟩
/-- A call of a function that is handed pointers to local blocks. -/
def CallP (C : Ctx) (g : FuncId) (ts : List T) (d : Option Nat) (s : St) (k : St → Prop) (_ : Hd (∃ s', k s')) : Prop := ∃ s', PCall C g ts d s s' ∧ k s'
theorem CallP.intro {C : Ctx} {g : FuncId} {ts : List T} {d : Option Nat} {s s' : St} {k : St → Prop} {x : Hd (∃ s', k s')} (h : PCall C g ts d s s') (hk : k s') : CallP C g ts d s k x := ⟨s', h, hk⟩
/-- A call of function g with these arguments. -/
def Call (C : Ctx) (g : FuncId) (ds : List D) (k : Res → Prop) (_ : Hd (∃ r, k r)) : Prop := ∃ r, DCall C.P C.E g ds r ∧ k r
@[congr] theorem Call_congr {C : Ctx} {g : FuncId} {ds ds' : List D} (k : Res → Prop) (x : Hd (∃ r, k r)) (h : ds = ds') : Call C g ds k x = Call C g ds' k x := by rw [h]
@[congr] theorem CallP_congr {C : Ctx} {g : FuncId} {ts ts' : List T} (d : Option Nat) (s : St) (k : St → Prop) (x : Hd (∃ s', k s')) (h : ts = ts') : CallP C g ts d s k x = CallP C g ts' d s k x := by rw [h]
@[congr] theorem ErrCmp_congr {C : Ctx} {a a' b b' : T} (k : Bool → Prop) (x : Hd (∃ c, k c)) (h : a = a') (h' : b = b') : ErrCmp C a b k x = ErrCmp C a' b' k x := by rw [h, h']
@[congr] theorem condS_congr {t t' : T} (p q : Prop) (x : Hd p) (y : Hd q) (h : t = t') : condS t p q x y = condS t' p q x y := by rw [h]
@[congr] theorem Stop_congr (p : Prop) (x : Hd p) : Stop p x = Stop p x := rfl
theorem Call.intro {C : Ctx} {g : FuncId} {ds : List D} {k : Res → Prop} {x : Hd (∃ r, k r)} {r : Res} (h : DCall C.P C.E g ds r) (hk : k r) : Call C g ds k x := ⟨r, h, hk⟩
section
variable {C : Ctx} {ops : Array Oper} {r : List Oper} {s : St} {K : St → Prop} {d : Option Tmp} {ty : TypeId} {pos : String} {after : Array Edge}
@[go_sem ↓] theorem st_nil : ST C ops [] s K = K s := by rw [ST_eq]; rfl
@[go_sem ↓] theorem st_move (x : Operand) : ST C ops (⟨d, .move x, ty, pos, after, none⟩ :: r) s K = ST C ops r (s.put d (s.ev x)) K := by rw [ST_eq]; rfl
@[go_sem ↓] theorem st_assign (x : Operand) : ST C ops (⟨d, .assign x, ty, pos, after, none⟩ :: r) s K = ST C ops r (s.put d (s.ev x)) K := by rw [ST_eq]; rfl
def pickT (c x y : T) : Option T := match c with
  | .d (.v (.bool t)) => some (if t then x else y)
  | _ => none
@[go_sem ↓] theorem st_pick (c x y : Operand) : ST C ops (⟨d, .pick c x y, ty, pos, after, none⟩ :: r) s K = ws (pickT (s.ev c) (s.ev x) (s.ev y)) fun v => ST C ops r (s.put d v) K := by rw [ST_eq]; rfl
@[go_sem ↓] theorem st_load (t : TypeId) (x : Operand) : ST C ops (⟨d, .load t x, ty, pos, after, none⟩ :: r) s K = ws (loadT C.P C.E s.h t (s.ev x)) fun v => ST C ops r (s.put d v) K := by rw [ST_eq]; rfl
@[go_sem ↓] theorem st_fieldAddr (t : TypeId) (x : Operand) (f : Nat) : ST C ops (⟨d, .fieldAddr t x f, ty, pos, after, none⟩ :: r) s K = ws (fieldT C.P t f (s.ev x)) fun v => ST C ops r (s.put d v) K := by rw [ST_eq]; rfl
@[go_sem ↓] theorem st_indexAddr (t : TypeId) (x i : Operand) : ST C ops (⟨d, .indexAddr t x i, ty, pos, after, none⟩ :: r) s K = ws (indexT C.P s.h t (s.ev x) (s.ev i)) fun v => ST C ops r (s.put d v) K := by rw [ST_eq]; rfl
@[go_sem ↓] theorem st_index (t : TypeId) (x i : Operand) : ST C ops (⟨d, .index t x i, ty, pos, after, none⟩ :: r) s K = ws (arrIndexT C.P t (s.ev x) (s.ev i)) fun v => ST C ops r (s.put d v) K := by rw [ST_eq]; rfl
@[go_sem ↓] theorem st_slice (t : TypeId) (x : Operand) (lo hi mx : Option Operand) : ST C ops (⟨d, .slice t x lo hi mx, ty, pos, after, none⟩ :: r) s K = ws (sliceT C.P s.h t (lo.map s.ev) (hi.map s.ev) (mx.map s.ev) (s.ev x)) fun v => ST C ops r (s.put d v) K := by rw [ST_eq]; rfl
@[go_sem ↓] theorem st_extract (x : Operand) (i : Nat) : ST C ops (⟨d, .extract x i, ty, pos, after, none⟩ :: r) s K = ws (extractT i (s.ev x)) fun v => ST C ops r (s.put d v) K := by rw [ST_eq]; rfl
/-- A binary operation whose second operand is not the literal nil. -/
def bin2 (P : Program) (op : BinOp) (t : TypeId) : T → T → Option T
  | .d (.v (.int k a)), .d (.v (.int k' b)) => if isShift op then (pshift op k a b).map fun v => .d (.v v) else if k = k' then (pint op k a b).map fun v => .d (.v v) else none
  | .d (.v (.float k a)), .d (.v (.float k' b)) => if isShift op then none else if k = k' then (pfloat op k a b).map fun v => .d (.v v) else none
  | .d (.v (.string a)), .d (.v (.string b)) => strT op a b
  | .d (.v (.bool a)), .d (.v (.bool b)) => boolT P op t a b
  | .d (.agg as), .d (.agg bs) => aggT P op t as bs
  | _, _ => none
where
  strT (op : BinOp) (a b : ByteArray) : Option T := match op with
    | .eql => some (.d (.v (.bool (a.toList == b.toList))))
    | .neq => some (.d (.v (.bool (!(a.toList == b.toList)))))
    | _ => none
  boolT (P : Program) (op : BinOp) (t : TypeId) (a b : Bool) : Option T := match P.underlying t, op with
    | some .bool, .eql => some (.d (.v (.bool (a == b))))
    | some .bool, .neq => some (.d (.v (.bool (!(a == b)))))
    | _, _ => none
  aggT (P : Program) (op : BinOp) (t : TypeId) (as bs : List D) : Option T := match op with
    | .eql => (eqAgg P t as bs).map fun b => .d (.v (.bool b))
    | .neq => (eqAgg P t as bs).map fun b => .d (.v (.bool (!b)))
    | _ => none
/-- A comparison with the literal nil. -/
def nil2 (op : BinOp) : Option Bool → Option T
  | some b => match op with
    | .eql => some (.d (.v (.bool b)))
    | .neq => some (.d (.v (.bool (!b))))
    | _ => none
  | none => none
theorem binT_bin2 {P : Program} {h : Nat → Option Obj} {op : BinOp} {t : TypeId} {yo : Operand} {x y : T} (hy : isNilOf yo = false) : binT P h op t yo x y = bin2 P op t x y := by
  unfold binT bin2
  rw [hy]
  simp only [Bool.false_eq_true, if_false]
  split <;> first | rfl | (split <;> rfl) | skip
  all_goals (try (cases op <;> rfl))
  all_goals (first | rfl | (unfold bin2.boolT; rfl) | (split <;> first | rfl | (exfalso; simp_all; done) | (exfalso; simp_all; rename_i hh; exact hh _ _ _ _ rfl rfl rfl rfl)))
theorem binT_nil2 {P : Program} {h : Nat → Option Obj} {op : BinOp} {t : TypeId} {yo : Operand} {x y : T} (hy : isNilOf yo = true) : binT P h op t yo x y = nil2 op (isNilT P h t x) := by
  unfold binT
  rw [hy]
  simp only [if_true]
  cases isNilT P h t x <;> cases op <;> rfl
def nanIx (op : BinOp) (i j : Nat) : Bool := match op with
  | .quo => i == 59 && j == 60
  | _ => false
@[go_sem] theorem nanIx_q (i j : Nat) : nanIx .quo i j = (i == 59 && j == 60) := (rfl)
@[go_sem] theorem nanIx_add (i j : Nat) : nanIx .add i j = false := (rfl)
@[go_sem] theorem nanIx_sub (i j : Nat) : nanIx .sub i j = false := (rfl)
@[go_sem] theorem nanIx_mul (i j : Nat) : nanIx .mul i j = false := (rfl)
@[go_sem] theorem nanIx_rem (i j : Nat) : nanIx .rem i j = false := (rfl)
@[go_sem] theorem nanIx_and (i j : Nat) : nanIx .and i j = false := (rfl)
@[go_sem] theorem nanIx_or (i j : Nat) : nanIx .or i j = false := (rfl)
@[go_sem] theorem nanIx_xor (i j : Nat) : nanIx .xor i j = false := (rfl)
@[go_sem] theorem nanIx_shl (i j : Nat) : nanIx .shl i j = false := (rfl)
@[go_sem] theorem nanIx_shr (i j : Nat) : nanIx .shr i j = false := (rfl)
@[go_sem] theorem nanIx_andNot (i j : Nat) : nanIx .andNot i j = false := (rfl)
@[go_sem] theorem nanIx_eql (i j : Nat) : nanIx .eql i j = false := (rfl)
@[go_sem] theorem nanIx_neq (i j : Nat) : nanIx .neq i j = false := (rfl)
@[go_sem] theorem nanIx_lss (i j : Nat) : nanIx .lss i j = false := (rfl)
@[go_sem] theorem nanIx_leq (i j : Nat) : nanIx .leq i j = false := (rfl)
@[go_sem] theorem nanIx_gtr (i j : Nat) : nanIx .gtr i j = false := (rfl)
@[go_sem] theorem nanIx_geq (i j : Nat) : nanIx .geq i j = false := (rfl)
@[go_sem] theorem and_fb (b : Bool) : (false && b) = false := (rfl)
@[go_sem] theorem and_tb (b : Bool) : (true && b) = b := (rfl)
@[go_sem] theorem nanOp_tt (op : BinOp) (i j : Nat) : nanOp op (.tmp i) (.tmp j) = nanIx op i j := (rfl)
@[go_sem] theorem nanOp_ct (op : BinOp) (v : Value) (j : Nat) : nanOp op (.const v) (.tmp j) = false := by cases op <;> rfl
@[go_sem] theorem nanOp_gt (op : BinOp) (v : Nat) (j : Nat) : nanOp op (.global v) (.tmp j) = false := by cases op <;> rfl
@[go_sem] theorem nanOp_ft (op : BinOp) (v : Nat) (j : Nat) : nanOp op (.func v) (.tmp j) = false := by cases op <;> rfl
@[go_sem ↓] theorem st_binOp_tmp (op : BinOp) (t t' : TypeId) (ht : (t == 61) = false) (x : Operand) (y : Tmp) (hno : nanOp op x (.tmp y) = false) : ST C ops (⟨d, .binOp op t x (.tmp y) t', ty, pos, after, none⟩ :: r) s K = ws (bin2 C.P op t (s.ev x) (s.t y)) fun v => ST C ops r (s.put d v) K := by
  rw [ST_eq]
  have : isErrCmp (.tmp y) t = false := by simp only [isErrCmp, ht]; rfl
  rw [← binT_bin2 (h := s.h) (yo := .tmp y) rfl]
  simp only [steps, step, run1, this, hno, Bool.false_eq_true, if_false]; rfl
@[congr] theorem nanT_congr {s : St} {d : Option Nat} (K : St → Prop) {x x' y y' : T} (h : x = x') (h' : y = y') : nanT s d K x y = nanT s d K x' y' := by rw [h, h']
@[congr] theorem nanR_congr {s : St} {d : Option Nat} (K : St → Prop) {x x' : Option Nat} (h : x = x') : nanR s d K x = nanR s d K x' := by rw [h]
@[go_sem ↓] theorem st_nan (t t' : TypeId) (ht : (t == 61) = false) : ST C ops (⟨d, .binOp .quo t (.tmp 59) (.tmp 60) t', ty, pos, after, none⟩ :: r) s K = nanT s d (fun s' => ST C ops r s' K) (s.t 59) (s.t 60) := by
  rw [ST_eq]
  have : isErrCmp (.tmp 60) t = false := by simp only [isErrCmp, ht]; rfl
  simp only [steps, step, run1, this, show nanOp .quo (.tmp 59) (.tmp 60) = true from rfl, Bool.false_eq_true, if_false, if_true]; rfl
@[go_sem] theorem nanT_of {a b : Nat} : nanT s d K (.d (.v (.float .f64 a))) (.d (.v (.float .f64 b))) = nanR s d K (FloatKind.f64.format.div a b) := (rfl)
@[go_sem] theorem nanR_some {a : Nat} : nanR s d K (some a) = K (s.put d (.d (.v (.float .f64 a)))) := (rfl)
@[go_sem] theorem nanR_none : nanR s d K none = ∀ r, ¬ (r % 9223372036854775808 ≤ 9218868437227405312) → Stop (K (s.put d (.d (.v (.float .f64 r))))) ⟨⟩ := (rfl)
/-- Two errors are compared. -/
@[go_sem ↓] theorem st_errcmp_eq (t' : TypeId) (x : Operand) (y : Tmp) : ST C ops (⟨d, .binOp .eql 61 x (.tmp y) t', ty, pos, after, none⟩ :: r) s K = ErrCmp C (s.ev x) (s.t y) (fun c => ST C ops r (s.put d (.d (.v (.bool c)))) K) ⟨⟩ := by
  rw [ST_eq]
  apply propext
  simp only [steps, step, run1, isErrCmp, ErrCmp, St.ev]
  simp
@[go_sem ↓] theorem st_errcmp_ne (t' : TypeId) (x : Operand) (y : Tmp) : ST C ops (⟨d, .binOp .neq 61 x (.tmp y) t', ty, pos, after, none⟩ :: r) s K = ErrCmp C (s.ev x) (s.t y) (fun c => ST C ops r (s.put d (.d (.v (.bool !c)))) K) ⟨⟩ := by
  rw [ST_eq]
  apply propext
  simp only [steps, step, run1, isErrCmp, ErrCmp, St.ev]
  simp
@[go_sem ↓] theorem st_binOp_int (op : BinOp) (t t' : TypeId) (x : Operand) (k : IntKind) (n : Int) : ST C ops (⟨d, .binOp op t x (.const (.int k n)) t', ty, pos, after, none⟩ :: r) s K = ws (bin2 C.P op t (s.ev x) (.d (.v (.int k n)))) fun v => ST C ops r (s.put d v) K := by
  rw [ST_eq]
  rw [← binT_bin2 (h := s.h) (yo := .const (.int k n)) rfl]; rfl
@[go_sem ↓] theorem st_binOp_float (op : BinOp) (t t' : TypeId) (x : Operand) (k : FloatKind) (n : Nat) : ST C ops (⟨d, .binOp op t x (.const (.float k n)) t', ty, pos, after, none⟩ :: r) s K = ws (bin2 C.P op t (s.ev x) (.d (.v (.float k n)))) fun v => ST C ops r (s.put d v) K := by
  rw [ST_eq]
  rw [← binT_bin2 (h := s.h) (yo := .const (.float k n)) rfl]; rfl
@[go_sem ↓] theorem st_binOp_string (op : BinOp) (t t' : TypeId) (x : Operand) (n : ByteArray) : ST C ops (⟨d, .binOp op t x (.const (.string n)) t', ty, pos, after, none⟩ :: r) s K = ws (bin2 C.P op t (s.ev x) (.d (.v (.string n)))) fun v => ST C ops r (s.put d v) K := by
  rw [ST_eq]
  rw [← binT_bin2 (h := s.h) (yo := .const (.string n)) rfl]; rfl
@[go_sem ↓] theorem st_binOp_nilI (op : BinOp) (t t' : TypeId) (x : Operand) : ST C ops (⟨d, .binOp op t x (.const .nilIface) t', ty, pos, after, none⟩ :: r) s K =
    ws (if nilFits C.P t (.const .nilIface) then nil2 op (isNilT C.P s.h t (s.ev x)) else none) fun v => ST C ops r (s.put d v) K := by
  rw [ST_eq]
  rw [← binT_nil2 (yo := .const .nilIface) (y := s.ev (.const .nilIface)) rfl]
  show ws (if isNilOf (.const .nilIface) && !nilFits C.P t (.const .nilIface) then none else _) _ = _
  cases nilFits C.P t (.const .nilIface) <;> rfl
@[go_sem ↓] theorem st_binOp_nilS (op : BinOp) (t t' : TypeId) (x : Operand) : ST C ops (⟨d, .binOp op t x (.const (.slice none 0 0)) t', ty, pos, after, none⟩ :: r) s K =
    ws (if nilFits C.P t (.const (.slice none 0 0)) then nil2 op (isNilT C.P s.h t (s.ev x)) else none) fun v => ST C ops r (s.put d v) K := by
  rw [ST_eq]
  rw [← binT_nil2 (yo := .const (.slice none 0 0)) (y := s.ev (.const (.slice none 0 0))) rfl]
  show ws (if isNilOf (.const (.slice none 0 0)) && !nilFits C.P t (.const (.slice none 0 0)) then none else _) _ = _
  cases nilFits C.P t (.const (.slice none 0 0)) <;> rfl
@[go_sem ↓] theorem st_binOp_nilF (op : BinOp) (t t' : TypeId) (x : Operand) : ST C ops (⟨d, .binOp op t x (.const .nilFunc) t', ty, pos, after, none⟩ :: r) s K =
    ws (if nilFits C.P t (.const .nilFunc) then nil2 op (isNilT C.P s.h t (s.ev x)) else none) fun v => ST C ops r (s.put d v) K := by
  rw [ST_eq]
  rw [← binT_nil2 (yo := .const .nilFunc) (y := s.ev (.const .nilFunc)) rfl]
  show ws (if isNilOf (.const .nilFunc) && !nilFits C.P t (.const .nilFunc) then none else _) _ = _
  cases nilFits C.P t (.const .nilFunc) <;> rfl
@[go_sem ↓] theorem st_unOp (op : UnOp) (t : TypeId) (x : Operand) : ST C ops (⟨d, .unOp op t x, ty, pos, after, none⟩ :: r) s K = ws (unT op (s.ev x)) fun v => ST C ops r (s.put d v) K := by rw [ST_eq]; rfl
@[go_sem ↓] theorem st_convert (t t' : TypeId) (x : Operand) : ST C ops (⟨d, .convert t t' x, ty, pos, after, none⟩ :: r) s K = ws (convT C.P t t' (s.ev x)) fun v => ST C ops r (s.put d v) K := by rw [ST_eq]; rfl
@[go_sem ↓] theorem st_makeInterface (t : TypeId) (x : Operand) : ST C ops (⟨d, .makeInterface t x, ty, pos, after, none⟩ :: r) s K = ws (mkIfaceT C.P t (s.ev x)) fun v => ST C ops r (s.put d v) K := by rw [ST_eq]; rfl
@[go_sem ↓] theorem st_nilCheck (x : Operand) : ST C ops (⟨d, .nilCheck x, ty, pos, after, none⟩ :: r) s K = ws (nilCheckT (s.ev x)) fun v => ST C ops r (s.put d v) K := by rw [ST_eq]; rfl
@[go_sem ↓] theorem st_build (t : TypeId) (parts : List (Nat × Operand)) : ST C ops (⟨d, .build t parts.toArray, ty, pos, after, none⟩ :: r) s K = ws (buildT C.P t (parts.map fun p => (p.1, s.ev p.2))) fun v => ST C ops r (s.put d v) K := by
  rw [ST_eq]
  simp only [steps, step, run1, yld, List.toList_toArray]
@[go_sem ↓] theorem st_len (x : Operand) (t : TypeId) : ST C ops (⟨d, .call ⟨.builtin .len, #[x], #[t]⟩, ty, pos, after, none⟩ :: r) s K = ws (lenT C.P s.h t (s.ev x)) fun v => ST C ops r (s.put d v) K := by rw [ST_eq]; rfl
@[go_sem ↓] theorem st_min (xs : List Operand) (ts : Array TypeId) : ST C ops (⟨d, .call ⟨.builtin .min, xs.toArray, ts⟩, ty, pos, after, none⟩ :: r) s K = ws (minmaxT false (xs.map s.ev)) fun v => ST C ops r (s.put d v) K := by
  rw [ST_eq]
  simp only [steps, step, run1, yld, List.toList_toArray]
@[go_sem ↓] theorem st_max (xs : List Operand) (ts : Array TypeId) : ST C ops (⟨d, .call ⟨.builtin .max, xs.toArray, ts⟩, ty, pos, after, none⟩ :: r) s K = ws (minmaxT true (xs.map s.ev)) fun v => ST C ops r (s.put d v) K := by
  rw [ST_eq]
  simp only [steps, step, run1, yld, List.toList_toArray]
@[go_sem ↓] theorem st_alloc (d : Tmp) (t : TypeId) : ST C ops (⟨some d, .alloc t, ty, pos, after, none⟩ :: r) s K = ws (zeroT C.P t) fun cs => s.h (C.kb + d) = none ∧ ST C ops r (s.var C.kb d cs) K := by rw [ST_eq]; rfl
@[go_sem ↓] theorem st_box (d : Tmp) (t : TypeId) (x : Operand) : ST C ops (⟨some d, .box t x, ty, pos, after, none⟩ :: r) s K = ws (cellsT (s.ev x)) fun cs => s.h (C.kb + d) = none ∧ ST C ops r (s.var C.kb d cs) K := by rw [ST_eq]; rfl
@[go_sem ↓] theorem st_buildSlice (d : Tmp) (t : TypeId) (len : Nat) (parts : List (Nat × Operand)) : ST C ops (⟨some d, .buildSlice t len parts.toArray, ty, pos, after, none⟩ :: r) s K =
    ws (slT C.P t) fun q => 0 < len ∧ len * q.2.1 ≤ 16777216 ∧ ws (fillT (fun i => some (i * q.2.1, q.2.1)) (List.replicate (len * q.2.1) (.d .any)) (parts.map fun p => (p.1, s.ev p.2))) fun cells => s.h (C.kb + d) = none ∧ if q.2.1 = 3 then ws (asDs cells) fun ds => ST C ops r (s.put (some d) (.d (.sl q.2.1 ds))) K else ST C ops r (s.row C.kb d ⟨some (q.1, q.2.1, false), cells⟩) K := by
  rw [ST_eq]
  simp only [steps, step, run1, List.toList_toArray, ST_eq]; rfl
def makeT (C : Ctx) (s : St) (d : Nat) (t : TypeId) (l c : T) (K : St → Prop) : Prop := match slT C.P t, l, c with
    | some (e, size, bytes, z :: zs), .d (.v (.int .i64 n)), .d (.v (.int .i64 m)) => n = m ∧ 0 ≤ n ∧ allEq z (z :: zs) = true ∧ n.toNat * bytes ≤ 281474976710656 ∧ n.toNat ≤ maxLen ∧ s.h (C.kb + d) = none ∧
        K (s.row C.kb d ⟨some (e, size, false), List.replicate (n.toNat * size) (.d (.v z))⟩)
    | _, _, _ => False
@[congr] theorem makeT_congr {C : Ctx} {s : St} {d : Nat} {t : TypeId} {l l' c c' : T} (K : St → Prop) (h : l = l') (h' : c = c') : makeT C s d t l c K = makeT C s d t l' c' K := by rw [h, h']
@[go_sem ↓] theorem st_makeSlice (d : Tmp) (t : TypeId) (l c : Operand) : ST C ops (⟨some d, .makeSlice t l c, ty, pos, after, none⟩ :: r) s K = makeT C s d t (s.ev l) (s.ev c) fun s' => ST C ops r s' K := by rw [ST_eq]; rfl
def storeT (C : Ctx) (s : St) (d : Option Nat) (t : TypeId) (p x : T) (K : St → Prop) : Prop := match p with
    | .ptr k off => ws (s.h k) fun ob => ws (cellsT x) fun cs => szT C.P t = some cs.length ∧ off + cs.length ≤ ob.cells.length ∧ K ((s.setH k { ob with cells := setCells ob.cells off cs }).put d (.d .any))
    | _ => False
@[congr] theorem storeT_congr {C : Ctx} {s : St} {d : Option Nat} {t : TypeId} {p p' x x' : T} (K : St → Prop) (h : p = p') (h' : x = x') : storeT C s d t p x K = storeT C s d t p' x' K := by rw [h, h']
@[go_sem ↓] theorem st_store (t : TypeId) (p x : Operand) : ST C ops (⟨d, .store t p x, ty, pos, after, none⟩ :: r) s K = storeT C s d t (s.ev p) (s.ev x) fun s' => ST C ops r s' K := by rw [ST_eq]; rfl
@[go_sem] theorem storeT_ptr {t : TypeId} {k off : Nat} {x : T} : storeT C s d t (.ptr k off) x K = ws (s.h k) fun ob => ws (cellsT x) fun cs => szT C.P t = some cs.length ∧ off + cs.length ≤ ob.cells.length ∧ K ((s.setH k { ob with cells := setCells ob.cells off cs }).put d (.d .any)) := (rfl)
@[congr] theorem appT_congr {C : Ctx} {s : St} {d : Nat} {t : TypeId} {x x' y y' : T} (K : St → Prop) (h : x = x') (h' : y = y') : appT C s d t x y K = appT C s d t x' y' K := by rw [h, h']
@[go_sem ↓] theorem st_append (d : Tmp) (x y : Operand) (t : TypeId) : ST C ops (⟨some d, .call ⟨.builtin .append, #[x, y], #[t, t]⟩, ty, pos, after, none⟩ :: r) s K = appT C s d t (s.ev x) (s.ev y) fun s' => ST C ops r s' K := by
  rw [ST_eq]
  simp [steps, step, run1, ws]
@[go_sem] theorem appT_nil {t : TypeId} {y : T} {d : Nat} : appT C s d t (.d (.v (.slice none 0 0))) y K = ws (slT C.P t) fun q => ws (srcT s.h q.2.1 y) fun cs =>
    cs.length / q.2.1 * q.2.2.1 ≤ 140737488355328 ∧ cs.length / q.2.1 ≤ maxLen ∧ s.h (C.kb + d) = none ∧ K (s.row C.kb d ⟨some (q.1, q.2.1, true), cs⟩) := rfl
@[go_sem] theorem appT_gs {t : TypeId} {y : T} {d k : Nat} : appT C s d t (.gs k) y K = ws (slT C.P t) fun q => ws (srcT s.h q.2.1 y) fun cs => ws (s.h k) fun ob =>
    (if t = 154 then SzOk C.P else True) ∧ ob.vec.map (fun v => (v.1, v.2.1)) = some (q.1, q.2.1) ∧ (ob.cells.length + cs.length) / q.2.1 * q.2.2.1 ≤ 140737488355328 ∧ (ob.cells.length + cs.length) / q.2.1 ≤ maxLen ∧ (s.kill k).h (C.kb + d) = none ∧
          K ((s.kill k).row C.kb d ⟨ob.vec, (ob.cells ++ cs).map (killT k)⟩) := by
  unfold appT
  cases slT C.P t with
  | none => rfl
  | some q =>
    obtain ⟨e, size, bytes, zs⟩ := q
    simp only [ws]
    cases srcT s.h size y with
    | none => rfl
    | some cs =>
      simp only [ws]
      cases s.h k with
      | none => rfl
      | some ob =>
        obtain ⟨v, cells⟩ := ob
        cases v with
        | none => simp [ws]
        | some v =>
          obtain ⟨e', size', nn⟩ := v
          simp only [ws, Option.map_some, Option.some.injEq, Prod.mk.injEq]
          apply propext
          constructor
          · rintro ⟨z, rfl, rfl, h⟩; exact ⟨by split <;> first | exact z (by assumption) | trivial, ⟨rfl, rfl⟩, h⟩
          · rintro ⟨z, ⟨rfl, rfl⟩, h⟩; exact ⟨fun e => by rw [if_pos e] at z; exact z, rfl, rfl, h⟩
theorem isE_of {g : FuncId} (h : isP g = false) : isE g = false := by
  simp only [isP, Bool.or_eq_false_iff] at h
  exact h.1.2
def calleeT (C : Ctx) (f : T) (xs : Option (List D)) (k : Res → Prop) (pp : FuncId → Prop) (dd : Prop) : Prop := match f with
    | .d (.v (.func (.func g) fst cap)) => fst = #[] ∧ cap = #[] ∧ (if isE g then dd else if isP g then pp g else callT C g xs k)
    | _ => False
@[congr] theorem calleeT_congr {C : Ctx} {f f' : T} {xs ys : Option (List D)} (k : Res → Prop) (pp : FuncId → Prop) (dd : Prop) (h' : f = f') (h : xs = ys) : calleeT C f xs k pp dd = calleeT C f' ys k pp dd := by rw [h, h']
@[go_sem ↓] theorem st_call (g : FuncId) (hg : isP g = false) (args : List Operand) (ts : Array TypeId) : ST C ops (⟨d, .call ⟨.value (.func g), args.toArray, ts⟩, ty, pos, after, none⟩ :: r) s K = callT C g (asDs (args.map s.ev)) (resT C s d fun s' => ST C ops r s' K) := by
  rw [ST_eq]
  simp [steps, step, run1, St.ev, callT, hg, isE_of hg]
@[go_sem ↓] theorem st_callp (g : FuncId) (hE : isE g = false) (hg : isP g = true) (args : List Operand) (ts : Array TypeId) : ST C ops (⟨d, .call ⟨.value (.func g), args.toArray, ts⟩, ty, pos, after, none⟩ :: r) s K = CallP C g (args.map s.ev) d s (fun s' => ST C ops r s' K) ⟨⟩ := by
  rw [ST_eq]
  simp [steps, step, run1, St.ev, CallP, hg, hE]
/-- The function that keeps the first error: looked at by the block's cells. -/
def doH (C : Ctx) (s : St) (dst : Option Nat) (K : St → Prop) (k : Nat) (a : List D) (e : D) : Option Obj → Prop
  | some ⟨none, [r, .hid e0]⟩ => DoOk C.P C.E ∧ a.length = 2 ∧ isErrD e = true ∧ K ((s.setH k ⟨none, [r, .hid (doE e0 e)]⟩).put dst (.d (.agg a)))
  | _ => False
@[congr] theorem doT_congr {C : Ctx} {s : St} {dst : Option Nat} (K : St → Prop) {ts ts' : List T} (h : ts = ts') : doT C s dst K ts = doT C s dst K ts' := by rw [h]
@[congr] theorem doH_congr {C : Ctx} {s : St} {dst : Option Nat} (K : St → Prop) {k : Nat} {a : List D} {e : D} {o o' : Option Obj} (h : o = o') : doH C s dst K k a e o = doH C s dst K k a e o' := by rw [h]
@[go_sem ↓] theorem st_calle (g : FuncId) (hE : isE g = true) (args : List Operand) (ts : Array TypeId) : ST C ops (⟨d, .call ⟨.value (.func g), args.toArray, ts⟩, ty, pos, after, none⟩ :: r) s K = doT C s d (fun s' => ST C ops r s' K) (args.map s.ev) := by
  rw [ST_eq]
  simp [steps, step, run1, St.ev, hE]
@[go_sem] theorem doT_of {dst : Option Nat} {k : Nat} {a : List D} {e : D} : doT C s dst K [.ptr k 0, .d (.agg a), .d e] = doH C s dst K k a e (s.h k) := (rfl)
@[go_sem] theorem doH_of {dst : Option Nat} {k : Nat} {a : List D} {e e0 : D} {x : T} : doH C s dst K k a e (some ⟨none, [x, .hid e0]⟩) = (DoOk C.P C.E ∧ a.length = 2 ∧ isErrD e = true ∧ K ((s.setH k ⟨none, [x, .hid (doE e0 e)]⟩).put dst (.d (.agg a)))) := (rfl)
@[go_sem] theorem isE_eq (g : FuncId) : isE g = (g == 137) := (rfl)
@[go_sem] theorem or_tb (b : Bool) : (true || b) = true := (rfl)
@[go_sem] theorem or_fb (b : Bool) : (false || b) = b := (rfl)
@[go_sem] theorem isP_eq (g : FuncId) : isP g = (g == 78 || g == 135 || g == 136 || g == 137 || g == 69) := (rfl)
@[go_sem ↓] theorem st_callv (t : Tmp) (args : List Operand) (ts : Array TypeId) : ST C ops (⟨d, .call ⟨.value (.tmp t), args.toArray, ts⟩, ty, pos, after, none⟩ :: r) s K = calleeT C (s.t t) (asDs (args.map s.ev)) (resT C s d fun s' => ST C ops r s' K) (fun g => ∃ s', PCall C g (args.map s.ev) d s s' ∧ ST C ops r s' K) (doT C s d (fun s' => ST C ops r s' K) (args.map s.ev)) := by
  rw [ST_eq]
  simp only [steps, step, run1, St.ev, callT, List.toList_toArray]; rfl
@[go_sem] theorem calleeT_func {g : FuncId} (hg : isP g = false) {xs : Option (List D)} {k : Res → Prop} {pp : FuncId → Prop} {dd : Prop} : calleeT C (.d (.v (.func (.func g) #[] #[]))) xs k pp dd = callT C g xs k := by simp [calleeT, hg, isE_of hg]
/-- A guarded operation. -/
def guardT (t : T) (b : Bool) (p q : Prop) : Prop := match gd t b with
  | some true => p
  | some false => q
  | none => False
/-- .. what is behind it is not looked into. -/
def guardS (t : T) (b : Bool) (p q : Prop) (_ : Hd p) (_ : Hd q) : Prop := guardT t b p q
@[congr] theorem guardS_congr {t t' : T} (b : Bool) (p q : Prop) (x : Hd p) (y : Hd q) (h : t = t') : guardS t b p q x y = guardS t' b p q x y := by rw [h]
@[go_sem ↓] theorem guardS_same' {b : Bool} {p q : Prop} {x : Hd p} {y : Hd q} : guardS (.d (.v (.bool b))) b p q x y = p := by simp [guardS, guardT, gd]
@[go_sem] theorem guardS_same {b : Bool} {p q : Prop} {x : Hd p} {y : Hd q} : guardS (.d (.v (.bool b))) b p q x y = p := by simp [guardS, guardT, gd]
@[go_sem ↓] theorem guardS_undef' {vs : Array Value} {b : Bool} {p q : Prop} {x : Hd p} {y : Hd q} : guardS (.d (.v (.tuple vs))) b p q x y = q := (rfl)
@[go_sem] theorem guardS_undef {vs : Array Value} {b : Bool} {p q : Prop} {x : Hd p} {y : Hd q} : guardS (.d (.v (.tuple vs))) b p q x y = q := (rfl)
@[go_sem ↓] theorem guardS_tf' {p q : Prop} {x : Hd p} {y : Hd q} : guardS (.d (.v (.bool true))) false p q x y = q := (rfl)
@[go_sem ↓] theorem guardS_ft' {p q : Prop} {x : Hd p} {y : Hd q} : guardS (.d (.v (.bool false))) true p q x y = q := (rfl)
@[go_sem] theorem guardS_tf {p q : Prop} {x : Hd p} {y : Hd q} : guardS (.d (.v (.bool true))) false p q x y = q := (rfl)
@[go_sem] theorem guardS_ft {p q : Prop} {x : Hd p} {y : Hd q} : guardS (.d (.v (.bool false))) true p q x y = q := (rfl)
def guardOf (ops : Array Oper) (j : Nat) : Option Tmp := (ops[j]?).bind (·.dst)
@[go_sem] theorem guardOf_arr (l : List Oper) (j : Nat) : guardOf l.toArray j = (l[j]?).bind (fun x => x.dst) := by simp [guardOf]
@[go_sem ↓] theorem st_guard (op : Op) (j : Nat) (b : Bool) : ST C ops (⟨d, op, ty, pos, after, some (j, b)⟩ :: r) s K =
    ws (guardOf ops j) fun g => guardS (s.t g) b (ST C ops (⟨d, op, ty, pos, after, none⟩ :: r) s K) (ST C ops r (s.put d (.d (.v (.tuple #[])))) K) ⟨⟩ ⟨⟩ := by
  rw [ST_eq]
  simp only [steps, step, guardOf]
  cases (ops[j]?).bind fun x => x.dst with
  | none => rfl
  | some g => rfl
end
attribute [go_sem] ws_some Option.bind_some
@[go_sem ↓] theorem ws_some' {α : Type} (x : α) (K : α → Prop) : ws (some x) K = K x := (rfl)
@[go_sem ↓] theorem dc_skip (C : Ctx) (Q : Exit → St → Prop) (s : St) : DC C .skip Q s = Q .normal s := by rw [DC_eq]; rfl
@[go_sem ↓] theorem dc_ret (C : Ctx) (Q : Exit → St → Prop) (s : St) : DC C .ret Q s = Q .ret s := by rw [DC_eq]; rfl
@[go_sem ↓] theorem dc_exit (C : Ctx) (Q : Exit → St → Prop) (s : St) (i : Nat) : DC C (.exit i) Q s = Q (.exit i) s := by rw [DC_eq]; rfl
@[go_sem ↓] theorem dc_label (C : Ctx) (Q : Exit → St → Prop) (s : St) (i : Nat) : DC C (.label i) Q s = Q .normal s := by rw [DC_eq]; rfl
@[go_sem ↓] theorem dc_seq (C : Ctx) (Q : Exit → St → Prop) (s : St) (x y : Code) : DC C (.seq x y) Q s = DC C x (Thn (DC C y Q) Q) s := by rw [DC_eq]; rfl
@[go_sem ↓] theorem dc_cond (C : Ctx) (Q : Exit → St → Prop) (s : St) (c : Operand) (x y : Code) : DC C (.cond c x y) Q s = condS (s.ev c) (DC C x Q s) (DC C y Q s) ⟨⟩ ⟨⟩ := by rw [DC_eq]; rfl
@[go_sem ↓] theorem dc_block (C : Ctx) (Q : Exit → St → Prop) (s : St) (i : Nat) (c : Code) : DC C (.block i c) Q s = DC C c (InB i Q) s := by rw [DC_eq]; rfl
@[go_sem ↓] theorem dc_region (C : Ctx) (Q : Exit → St → Prop) (s : St) (i : Nat) (ops : List Oper) : DC C (.region i ops.toArray false) Q s = commL s (callArgs [] ops) fun s => ST C ops.toArray ops s (Q .normal) := by
  rw [DC_eq, ST_eq]
  simp only [dcode, List.toList_toArray]
@[congr] theorem commL_congr {s : St} {l l' : List Operand} (K : St → Prop) (h : l = l') : commL s l K = commL s l' K := by rw [h]
@[congr] theorem commOne_congr {s : St} {x x' : T} (K : St → Prop) (h : x = x') : commOne s x K = commOne s x' K := by rw [h]
@[congr] theorem commG_congr {s : St} {k : Nat} {x x' : Option Obj} (K : St → Prop) (h : x = x') : commG s k x K = commG s k x' K := by rw [h]
@[congr] theorem commA_congr {s : St} {k : Nat} {o : Obj} {x x' : Option (List D)} (K : St → Prop) (h : x = x') : commA s k o x K = commA s k o x' K := by rw [h]
@[congr] theorem commR_congr {s : St} {l l' : List ResultVar} (K : St → Prop) (h : l = l') : commR s l K = commR s l' K := by rw [h]
@[go_sem ↓] theorem commL_nil' {s : St} {K : St → Prop} : commL s [] K = K s := (rfl)
@[go_sem] theorem commL_nil {s : St} {K : St → Prop} : commL s [] K = K s := (rfl)
@[go_sem] theorem commL_cons {s : St} {x : Operand} {r : List Operand} {K : St → Prop} : commL s (x :: r) K = commOne s (s.ev x) fun s' => commL s' r K := (rfl)
@[go_sem] theorem commOne_d {s : St} {x : D} {K : St → Prop} : commOne s (.d x) K = K s := (rfl)
@[go_sem] theorem commOne_ptr {s : St} {k i : Nat} {K : St → Prop} : commOne s (.ptr k i) K = K s := (rfl)
@[go_sem] theorem commOne_vw {s : St} {k i n : Nat} {K : St → Prop} : commOne s (.vw k i n) K = K s := (rfl)
@[go_sem] theorem commOne_tp {s : St} {k : Nat} {x : D} {K : St → Prop} : commOne s (.tp k x) K = K s := (rfl)
@[go_sem] theorem commOne_hid {s : St} {x : D} {K : St → Prop} : commOne s (.hid x) K = K s := (rfl)
@[go_sem] theorem commOne_ipr {s : St} {t : TypeId} {k : Nat} {K : St → Prop} : commOne s (.ipr t k) K = commG s k (s.h k) K := (rfl)
@[go_sem] theorem commOne_gs {s : St} {k : Nat} {K : St → Prop} : commOne s (.gs k) K = commG s k (s.h k) K := (rfl)
@[go_sem] theorem commG_some {s : St} {k : Nat} {o : Obj} {K : St → Prop} : commG s k (some o) K = commA s k o (asDs o.cells) K := (rfl)
@[go_sem] theorem commA_some {s : St} {k : Nat} {o : Obj} {ds : List D} {K : St → Prop} : commA s k o (some ds) K = K (s.comm k o ds) := (rfl)
@[go_sem] theorem commA_none {s : St} {k : Nat} {o : Obj} {K : St → Prop} : commA s k o none K = K s := (rfl)
@[go_sem] theorem commR_nil {s : St} {K : St → Prop} : commR s [] K = K s := (rfl)
@[go_sem] theorem commR_tmp {s : St} {t : Tmp} {r : List ResultVar} {K : St → Prop} : commR s (.tmp t :: r) K = commOne s (s.t t) fun s' => commR s' r K := (rfl)
@[go_sem] theorem commR_cell {s : St} {t : Tmp} {ty : TypeId} {r : List ResultVar} {K : St → Prop} : commR s (.cell t ty :: r) K = commR s r K := (rfl)
def appL (env : List (Nat × Operand)) (a b : List Operand) : List Operand := tmpsA env a ++ b
section
variable {d : Option Tmp} {ty : TypeId} {pos : String} {after : Array Edge} {g : Option (Nat × Bool)} {r : List Oper} {env : List (Nat × Operand)}
@[go_sem ↓] theorem callArgs_nil : callArgs env [] = [] := (rfl)
@[go_sem ↓] theorem callArgs_move (d : Nat) (x : Operand) : callArgs env (⟨some d, .move x, ty, pos, after, g⟩ :: r) = callArgs ((d, x) :: env) r := (rfl)
@[go_sem ↓] theorem callArgs_assign (x : Operand) : callArgs env (⟨d, .assign x, ty, pos, after, g⟩ :: r) = callArgs env r := (rfl)
@[go_sem ↓] theorem callArgs_pick (x y z : Operand) : callArgs env (⟨d, .pick x y z, ty, pos, after, g⟩ :: r) = callArgs env r := (rfl)
@[go_sem ↓] theorem callArgs_load (t : TypeId) (x : Operand) : callArgs env (⟨d, .load t x, ty, pos, after, g⟩ :: r) = callArgs env r := (rfl)
@[go_sem ↓] theorem callArgs_fieldAddr (t : TypeId) (x : Operand) (i : Nat) : callArgs env (⟨d, .fieldAddr t x i, ty, pos, after, g⟩ :: r) = callArgs env r := (rfl)
@[go_sem ↓] theorem callArgs_indexAddr (t : TypeId) (x i : Operand) : callArgs env (⟨d, .indexAddr t x i, ty, pos, after, g⟩ :: r) = callArgs env r := (rfl)
@[go_sem ↓] theorem callArgs_index (t : TypeId) (x i : Operand) : callArgs env (⟨d, .index t x i, ty, pos, after, g⟩ :: r) = callArgs env r := (rfl)
@[go_sem ↓] theorem callArgs_slice (t : TypeId) (x : Operand) (lo hi mx : Option Operand) : callArgs env (⟨d, .slice t x lo hi mx, ty, pos, after, g⟩ :: r) = callArgs env r := (rfl)
@[go_sem ↓] theorem callArgs_extract (x : Operand) (i : Nat) : callArgs env (⟨d, .extract x i, ty, pos, after, g⟩ :: r) = callArgs env r := (rfl)
@[go_sem ↓] theorem callArgs_binOp (op : BinOp) (t t2 : TypeId) (x y : Operand) : callArgs env (⟨d, .binOp op t x y t2, ty, pos, after, g⟩ :: r) = callArgs env r := (rfl)
@[go_sem ↓] theorem callArgs_unOp (op : UnOp) (t : TypeId) (x : Operand) : callArgs env (⟨d, .unOp op t x, ty, pos, after, g⟩ :: r) = callArgs env r := (rfl)
@[go_sem ↓] theorem callArgs_convert (t t2 : TypeId) (x : Operand) : callArgs env (⟨d, .convert t t2 x, ty, pos, after, g⟩ :: r) = callArgs env r := (rfl)
@[go_sem ↓] theorem callArgs_makeInterface (t : TypeId) (x : Operand) : callArgs env (⟨d, .makeInterface t x, ty, pos, after, g⟩ :: r) = callArgs env r := (rfl)
@[go_sem ↓] theorem callArgs_nilCheck (x : Operand) : callArgs env (⟨d, .nilCheck x, ty, pos, after, g⟩ :: r) = callArgs env r := (rfl)
@[go_sem ↓] theorem callArgs_build (t : TypeId) (parts : Array (Nat × Operand)) : callArgs env (⟨d, .build t parts, ty, pos, after, g⟩ :: r) = callArgs env r := (rfl)
@[go_sem ↓] theorem callArgs_alloc (t : TypeId) : callArgs env (⟨d, .alloc t, ty, pos, after, g⟩ :: r) = callArgs env r := (rfl)
@[go_sem ↓] theorem callArgs_box (t : TypeId) (x : Operand) : callArgs env (⟨d, .box t x, ty, pos, after, g⟩ :: r) = callArgs env r := (rfl)
@[go_sem ↓] theorem callArgs_buildSlice (t : TypeId) (n : Nat) (parts : Array (Nat × Operand)) : callArgs env (⟨d, .buildSlice t n parts, ty, pos, after, g⟩ :: r) = callArgs env r := (rfl)
@[go_sem ↓] theorem callArgs_makeSlice (t : TypeId) (l c : Operand) : callArgs env (⟨d, .makeSlice t l c, ty, pos, after, g⟩ :: r) = callArgs env r := (rfl)
@[go_sem ↓] theorem callArgs_store (t : TypeId) (p x : Operand) : callArgs env (⟨d, .store t p x, ty, pos, after, g⟩ :: r) = callArgs env r := (rfl)
@[go_sem ↓] theorem callArgs_builtin (b : Builtin) (args : Array Operand) (ts : Array TypeId) : callArgs env (⟨d, .call ⟨.builtin b, args, ts⟩, ty, pos, after, g⟩ :: r) = callArgs env r := (rfl)
@[go_sem ↓] theorem callArgs_call (f : FuncId) (hf : isP f = false) (args : List Operand) (ts : Array TypeId) : callArgs env (⟨d, .call ⟨.value (.func f), args.toArray, ts⟩, ty, pos, after, g⟩ :: r) = appL env args (callArgs env r) := by
  simp [callArgs, hf, appL]
@[go_sem ↓] theorem callArgs_callp (f : FuncId) (hf : isP f = true) (args : List Operand) (ts : Array TypeId) : callArgs env (⟨d, .call ⟨.value (.func f), args.toArray, ts⟩, ty, pos, after, g⟩ :: r) = callArgs env r := by
  simp [callArgs, hf]
@[go_sem ↓] theorem callArgs_callv (t : Tmp) (args : List Operand) (ts : Array TypeId) : callArgs env (⟨d, .call ⟨.value (.tmp t), args.toArray, ts⟩, ty, pos, after, g⟩ :: r) = appL env args (callArgs env r) := by
  simp [callArgs, appL]
@[go_sem ↓] theorem appL_nil (b : List Operand) : appL env [] b = b := (rfl)
@[go_sem ↓] theorem appL_tmp (t : Tmp) (a b : List Operand) : appL env (.tmp t :: a) b = lookA env (.tmp t) :: appL env a b := (rfl)
@[go_sem ↓] theorem appL_const (x : Value) (a b : List Operand) : appL env (.const x :: a) b = appL env a b := (rfl)
@[go_sem ↓] theorem appL_func (x : FuncId) (a b : List Operand) : appL env (.func x :: a) b = appL env a b := (rfl)
@[go_sem ↓] theorem appL_global (x : Nat) (a b : List Operand) : appL env (.global x :: a) b = appL env a b := (rfl)
@[go_sem ↓] theorem lookA_nil (x : Operand) : lookA [] x = x := (rfl)
@[go_sem ↓] theorem lookA_cons (i : Nat) (y : Operand) (t : Nat) : lookA ((i, y) :: env) (.tmp t) = if t = i then y else lookA env (.tmp t) := (rfl)
end
@[go_sem ↓] theorem dc_drawn (C : Ctx) (Q : Exit → St → Prop) (s : St) (i : Nat) (ops : Array Oper) : DC C (.region i ops true) Q s = Stop (DWp C (.region i ops true) Q s) ⟨⟩ := by rw [DC_eq]; rfl
@[go_sem ↓] theorem dc_loop (C : Ctx) (Q : Exit → St → Prop) (s : St) (c : Code) : DC C (.loop c) Q s = Stop (DWp C (.loop c) Q s) ⟨⟩ := by rw [DC_eq]; rfl
@[go_sem ↓] theorem thn_normal (next : St → Prop) (Q : Exit → St → Prop) (s : St) : Thn next Q .normal s = next s := (rfl)
@[go_sem ↓] theorem thn_ret (next : St → Prop) (Q : Exit → St → Prop) (s : St) : Thn next Q .ret s = Q .ret s := (rfl)
@[go_sem ↓] theorem thn_exit (next : St → Prop) (Q : Exit → St → Prop) (i : Nat) (s : St) : Thn next Q (.exit i) s = Q (.exit i) s := (rfl)
@[go_sem ↓] theorem inb_normal (i : Nat) (Q : Exit → St → Prop) (s : St) : InB i Q .normal s = Q .normal s := (rfl)
@[go_sem ↓] theorem inb_ret (i : Nat) (Q : Exit → St → Prop) (s : St) : InB i Q .ret s = Q .ret s := (rfl)
@[go_sem ↓] theorem inb_same (i : Nat) (Q : Exit → St → Prop) (s : St) : InB i Q (.exit i) s = Q .normal s := by simp [InB]
@[go_sem ↓] theorem inb_other (i j : Nat) (Q : Exit → St → Prop) (s : St) (h : (j == i) = false) : InB i Q (.exit j) s = Q (.exit j) s := by
  have : j ≠ i := by simpa using h
  simp [InB, this]
@[go_sem ↓] theorem post_normal (C : Ctx) (rs : List ResultVar) (r : Res) (s : St) : Post C rs r .normal s = Fin C rs s r := (rfl)
@[go_sem ↓] theorem post_ret (C : Ctx) (rs : List ResultVar) (r : Res) (s : St) : Post C rs r .ret s = Fin C rs s r := (rfl)
def cellT (C : Ctx) (s : St) (ty : TypeId) : T → Option T
  | .ptr k off => loadT C.P C.E s.h ty (.ptr k off)
  | _ => none
def finK (t : Tmp) (d : D) (s : St) : Prop := s.t t = .d d
@[go_sem] theorem finK_eq (t : Tmp) (d : D) (s : St) : finK t d s = (s.t t = .d d) := (rfl)
@[go_sem ↓] theorem fin_tmp (C : Ctx) (s : St) (t : Tmp) (d : D) : Fin C [.tmp t] s (.data d) = commOne s (s.t t) (finK t d) := by
  have h0 : ∀ s, (∃ ds, resD C s [.tmp t] = some ds ∧ oneOf ds = d) ↔ finK t d s := fun s => by
    simp only [resD, finK]
    constructor
    · rintro ⟨ds, h1, h2⟩
      split at h1
      · rename_i x hx
        simp only [Option.map_some, Option.some.injEq] at h1
        subst h1
        simp only [oneOf] at h2
        rw [hx, h2]
      · cases h1
    · intro h; rw [h]; exact ⟨[d], rfl, rfl⟩
  simp only [Fin, commR]
  congr 1
  funext s'
  exact propext (h0 s')
@[go_sem ↓] theorem fin_cell (C : Ctx) (s : St) (p : Tmp) (ty : TypeId) (d : D) : Fin C [.cell p ty] s (.data d) = (cellT C s ty (s.t p) = some (.d d)) := by
  apply propext
  simp only [Fin, resD, cellT, commR]
  constructor
  · rintro ⟨ds, h1, h2⟩
    split at h1
    · rename_i k off hk
      rw [hk]
      split at h1
      · rename_i x hx
        simp only [Option.map_some, Option.some.injEq] at h1
        subst h1
        simp only [oneOf] at h2
        rw [← h2]; exact hx
      · cases h1
    · cases h1
  · intro h
    split at h
    · rename_i k off hk
      rw [hk]
      simp only [h]
      exact ⟨[d], rfl, rfl⟩
    · cases h
/-- Several results. -/
def resL (C : Ctx) (s : St) : List ResultVar → List D → Prop
  | [], ds => ds = []
  | .tmp t :: r, ds => match ds with
    | d :: q => s.t t = .d d ∧ resL C s r q
    | [] => False
  | .cell p ty :: r, ds => match ds with
    | d :: q => cellT C s ty (s.t p) = some (.d d) ∧ resL C s r q
    | [] => False
theorem resL_sound (C : Ctx) (s : St) : ∀ (rs : List ResultVar) (ds : List D), resL C s rs ds → resD C s rs = some ds
  | [], ds, h => by simp only [resL] at h; subst h; rfl
  | .tmp t :: r, [], h => h.elim
  | .tmp t :: r, d :: q, h => by simp only [resL] at h; simp only [resD, h.1, resL_sound C s r q h.2, Option.map_some]
  | .cell p ty :: r, [], h => h.elim
  | .cell p ty :: r, d :: q, h => by
    simp only [resL] at h
    have h1 := h.1
    simp only [cellT] at h1
    split at h1
    · rename_i k off hk
      simp only [resD, hk, h1, resL_sound C s r q h.2, Option.map_some]
    · cases h1
theorem commOne_mono {s : St} {x : T} {K K' : St → Prop} (h : ∀ s, K s → K' s) : commOne s x K → commOne s x K' := by
  have hG : ∀ k, commG s k (s.h k) K → commG s k (s.h k) K' := fun k => by
    simp only [commG, commA]
    split
    · split <;> exact h _
    · exact h _
  cases x with
  | gs k => exact hG k
  | ipr _ k => exact hG k
  | _ => exact h _
theorem commR_mono {K K' : St → Prop} (h : ∀ s, K s → K' s) : ∀ {l : List ResultVar} {s : St}, commR s l K → commR s l K'
  | [], s => h s
  | .tmp t :: r, s => by simp only [commR]; exact commOne_mono fun s' => commR_mono h
  | .cell _ _ :: r, s => by simp only [commR]; exact commR_mono h
theorem fin_many {C : Ctx} {s : St} {a b : ResultVar} {r : List ResultVar} {ds : List D} (h : commR s (a :: b :: r) fun s => resL C s (a :: b :: r) ds) : Fin C (a :: b :: r) s (.data (.tup ds)) := by
  simp only [Fin]
  refine commR_mono (fun s h => ?_) h
  refine ⟨ds, resL_sound C s _ ds h, ?_⟩
  cases ds with
  | nil => cases a <;> exact h.elim
  | cons x ds => cases ds with
    | nil => cases a <;> cases b <;> exact h.2.elim
    | cons y ds => rfl
@[go_sem ↓] theorem fin_own (C : Ctx) (s : St) (t : Tmp) (e : TypeId) (size : Nat) (nn : Bool) (cells : List D) : Fin C [.tmp t] s (.own e size nn cells) = ∃ k, s.t t = .gs k ∧ s.h k = some ⟨some (e, size, nn), cells.map .d⟩ := by
  apply propext
  simp only [Fin]
  constructor
  · rintro ⟨t', k, h1, h2, h3⟩; cases h1; exact ⟨k, h2, h3⟩
  · rintro ⟨k, h2, h3⟩; exact ⟨t, k, rfl, h2, h3⟩
@[go_sem ↓] theorem fin_ownP (C : Ctx) (s : St) (t t' : Tmp) (e : TypeId) (size : Nat) (nn : Bool) (cells : List D) (y : D) : Fin C [.tmp t, .tmp t'] s (.ownP e size nn cells y) = (s.t t' = .d y ∧ ∃ k, s.t t = .gs k ∧ s.h k = some ⟨some (e, size, nn), cells.map .d⟩) := by
  apply propext
  simp only [Fin]
  constructor
  · rintro ⟨t1, t2, k, h1, h2, h3, h4⟩; cases h1; exact ⟨h4, k, h2, h3⟩
  · rintro ⟨h4, k, h2, h3⟩; exact ⟨t, t', k, rfl, h2, h3, h4⟩
/-- A condition parts the walk. -/
theorem cond_intro {b : Bool} {p q : Prop} {x : Hd p} {y : Hd q} (h1 : b = true → p) (h2 : b = false → q) : (b = true → Stop p x) ∧ (b = false → Stop q y) := ⟨h1, h2⟩
@[go_sem high] theorem condS_tt (p q : Prop) (x : Hd p) (y : Hd q) : condS (.d (.v (.bool true))) p q x y = p := by simp [condS, condT]
@[go_sem high] theorem condS_ff (p q : Prop) (x : Hd p) (y : Hd q) : condS (.d (.v (.bool false))) p q x y = q := by simp [condS, condT]
theorem stop_eq (p : Prop) (x : Hd p) : Stop p x = p := (rfl)
@[go_sem] theorem condS_bool (b : Bool) (p q : Prop) (x : Hd p) (y : Hd q) : condS (.d (.v (.bool b))) p q x y = ((b = true → Stop p ⟨⟩) ∧ (b = false → Stop q ⟨⟩)) := (rfl)
@[go_sem] theorem condS_true (p q : Prop) (x : Hd p) (y : Hd q) : condS (.d (.v (.bool true))) p q x y = p := by simp [condS, condT]
@[go_sem] theorem condS_false (p q : Prop) (x : Hd p) (y : Hd q) : condS (.d (.v (.bool false))) p q x y = q := by simp [condS, condT]
@[go_sem ↓] theorem callT_some' (C : Ctx) (g : FuncId) (ds : List D) (k : Res → Prop) : callT C g (some ds) k = Call C g ds k ⟨⟩ := (rfl)
@[go_sem] theorem callT_some (C : Ctx) (g : FuncId) (ds : List D) (k : Res → Prop) : callT C g (some ds) k = Call C g ds k ⟨⟩ := (rfl)
@[go_sem] theorem ev_tmp (s : St) (t : Nat) : s.ev (.tmp t) = s.t t := (rfl)
@[go_sem] theorem ev_const (s : St) (v : Value) : s.ev (.const v) = .d (.v v) := (rfl)
@[go_sem] theorem ev_global (s : St) (g : Nat) : s.ev (.global g) = .d (.v (.pointer (some ⟨g, 0, none⟩))) := (rfl)
@[go_sem] theorem ev_func (s : St) (f : FuncId) : s.ev (.func f) = .d (.v (.func (.func f) #[] #[])) := (rfl)
def initT : List D → Nat → T
  | [], _ => .d .any
  | x :: _, 0 => .d x
  | _ :: r, i + 1 => initT r i
theorem initT_eq : ∀ (args : List D) (i : Nat), (match args[i]? with | some x => T.d x | none => .d .any) = initT args i
  | [], i => by simp [initT]
  | _ :: _, 0 => by simp [initT]
  | _ :: r, i + 1 => by simpa [initT] using initT_eq r i
@[go_sem] theorem init_t (args : List D) (i : Nat) : (St.init args).t i = initT args i := initT_eq args i
@[go_sem] theorem init_h (args : List D) (k : Nat) : (St.init args).h k = none := (rfl)
@[go_sem] theorem put_t (s : St) (d i : Nat) (x : T) : (s.put (some d) x).t i = if i = d then x else s.t i := (rfl)
@[go_sem] theorem put_none (s : St) (x : T) : s.put none x = s := (rfl)
@[go_sem] theorem put_h (s : St) (d : Option Nat) (x : T) : (s.put d x).h = s.h := by cases d <;> rfl
@[go_sem] theorem var_t (s : St) (kb d i : Nat) (cs : List T) : (s.var kb d cs).t i = if i = d then .ptr (kb + d) 0 else s.t i := (rfl)
@[go_sem] theorem var_h (s : St) (kb d k : Nat) (cs : List T) : (s.var kb d cs).h k = if k = kb + d then some ⟨none, cs⟩ else s.h k := (rfl)
@[go_sem] theorem row_t (s : St) (kb d i : Nat) (o : Obj) : (s.row kb d o).t i = if i = d then .gs (kb + d) else s.t i := (rfl)
@[go_sem] theorem row_h (s : St) (kb d k : Nat) (o : Obj) : (s.row kb d o).h k = if k = kb + d then some o else s.h k := (rfl)
@[go_sem] theorem rowP_t (s : St) (kb d i : Nat) (o : Obj) (y : D) : (s.rowP kb d o y).t i = if i = d then .tp (kb + d) y else s.t i := (rfl)
@[go_sem] theorem rowP_h (s : St) (kb d k : Nat) (o : Obj) (y : D) : (s.rowP kb d o y).h k = if k = kb + d then some o else s.h k := (rfl)
@[go_sem] theorem setH_t (s : St) (k i : Nat) (o : Obj) : (s.setH k o).t i = s.t i := (rfl)
@[go_sem] theorem setH_h (s : St) (k j : Nat) (o : Obj) : (s.setH k o).h j = if j = k then some o else s.h j := (rfl)
@[go_sem] theorem kill_t (s : St) (k i : Nat) : (s.kill k).t i = killT k (s.t i) := (rfl)
@[go_sem] theorem kill_h (s : St) (k i : Nat) : (s.kill k).h i = if i = k then none else (s.h i).map (Obj.kill k) := (rfl)
@[go_sem] theorem comm_t (s : St) (k i : Nat) (o : Obj) (ds : List D) : (s.comm k o ds).t i = commT k o ds (s.t i) := (rfl)
@[go_sem] theorem comm_h (s : St) (k i : Nat) (o : Obj) (ds : List D) : (s.comm k o ds).h i = if i = k then none else (s.h i).map (Obj.comm k o ds) := (rfl)
@[go_sem] theorem opn_d {t : TypeId} {x : D} : opn t (some (.d x)) = some (.d x) := (rfl)
@[go_sem] theorem opn_ptr {t : TypeId} {k o : Nat} : opn t (some (.ptr k o)) = some (.ptr k o) := (rfl)
@[go_sem] theorem opn_gs {t : TypeId} {k : Nat} : opn t (some (.gs k)) = some (.gs k) := (rfl)
@[go_sem] theorem opn_ipr {t t' : TypeId} {k : Nat} : opn t (some (.ipr t' k)) = some (.ipr t' k) := (rfl)
@[go_sem] theorem opn_none {t : TypeId} : opn t none = none := (rfl)
@[go_sem] theorem opn_hid {t : TypeId} {x : D} : opn t (some (.hid x)) = if t == 61 then some (.d x) else none := (rfl)
/-- A state told by lists. -/
def lk : List (Nat × T) → Nat → T
  | [], _ => .d .any
  | (j, x) :: r, i => if i = j then x else lk r i
def lkh : List (Nat × Obj) → Nat → Option Obj
  | [], _ => none
  | (j, x) :: r, i => if i = j then some x else lkh r i
def St.of (l : List (Nat × T)) (m : List (Nat × Obj)) : St := { t := lk l, h := lkh m }
@[go_sem] theorem of_t (l : List (Nat × T)) (m : List (Nat × Obj)) (i : Nat) : (St.of l m).t i = lk l i := (rfl)
@[go_sem] theorem of_h (l : List (Nat × T)) (m : List (Nat × Obj)) (k : Nat) : (St.of l m).h k = lkh m k := (rfl)
attribute [go_sem] lk lkh
def allTW (s : St) : List (Nat × T) → Prop
  | [] => True
  | (i, x) :: r => TW (s.t i) x ∧ allTW s r
def allH (s : St) : List (Nat × Obj) → Prop
  | [] => True
  | (k, o) :: r => s.h k = some o ∧ allH s r
def refIn (ks : List Nat) (x : T) : Bool := match x.ref with
  | none => true
  | some k => ks.contains k
def refsOk (l : List (Nat × T)) (m : List (Nat × Obj)) : Bool :=
  l.all (fun p => refIn (m.map (·.1)) p.2) && m.all fun p => p.2.cells.all (refIn (m.map (·.1)))
theorem lkh_ne {m : List (Nat × Obj)} {k : Nat} (h : k ∈ m.map (·.1)) : lkh m k ≠ none := by
  induction m with
  | nil => simp at h
  | cons p m ih =>
    obtain ⟨j, o⟩ := p
    simp only [lkh]
    split
    · simp
    · rename_i hne
      simp only [List.map_cons, List.mem_cons] at h
      rcases h with h | h
      · exact absurd h hne
      · exact ih h
theorem refIn_spec {ks : List Nat} {x : T} (h : refIn ks x = true) {k : Nat} (hk : x.ref = some k) : k ∈ ks := by
  simp only [refIn, hk] at h
  simpa using h
theorem weak_of {s : St} {l : List (Nat × T)} {m : List (Nat × Obj)} (ht : allTW s l) (hh : allH s m) (hr : refsOk l m = true) : Weak s (St.of l m) := by
  simp only [refsOk, Bool.and_eq_true, List.all_eq_true] at hr
  refine ⟨fun i => ?_, fun k o h => ?_, fun i k hk => ?_, fun k o ho c hc k' hk' => ?_⟩
  · clear hr
    simp only [St.of]
    induction l with
    | nil => exact .inr (.inl rfl)
    | cons p l ih =>
      obtain ⟨j, x⟩ := p
      simp only [lk]
      simp only [allTW] at ht
      split
      · rename_i e; rw [e]; exact ht.1
      · exact ih ht.2
  · clear hr
    simp only [St.of] at h
    induction m with
    | nil => simp [lkh] at h
    | cons p m ih =>
      obtain ⟨j, x⟩ := p
      simp only [lkh] at h
      simp only [allH] at hh
      split at h
      · rename_i e; cases h; rw [e]; exact hh.1
      · exact ih hh.2 h
  · refine lkh_ne ?_
    simp only [St.of] at hk
    have : ∀ l', (∀ p ∈ l', refIn (m.map (·.1)) p.2 = true) → (lk l' i).ref = some k → k ∈ m.map (·.1) := by
      intro l'
      induction l' with
      | nil => intro _ h; simp [lk, T.ref] at h
      | cons p l' ih =>
        obtain ⟨j, x⟩ := p
        intro hp h
        simp only [lk] at h
        split at h
        · exact refIn_spec (hp (j, x) (by simp)) h
        · exact ih (fun q hq => hp q (by simp [hq])) h
    exact this l (fun p hp => hr.1 p hp) hk
  · refine lkh_ne ?_
    simp only [St.of] at ho
    have hm : ∃ j, (j, o) ∈ m := by
      clear hr hh hc hk'
      induction m with
      | nil => simp [lkh] at ho
      | cons p m ih =>
        obtain ⟨j, x⟩ := p
        simp only [lkh] at ho
        split at ho
        · cases ho; exact ⟨j, by simp⟩
        · obtain ⟨j', h'⟩ := ih ho; exact ⟨j', by simp [h']⟩
    obtain ⟨j, hm⟩ := hm
    exact refIn_spec (hr.2 (j, o) hm c hc) hk'
@[go_sem] theorem TW_self (x : T) : TW x x = True := by simp [TW]
@[go_sem] theorem TW_any (x : T) : TW x (.d .any) = True := by simp [TW]
@[go_sem] theorem TW_nil (n : Nat) : TW (.d (.v (.slice none 0 0))) (.d (.sl n [])) = True := by simp [TW]
theorem TW.of_eq {x y : T} (h : x = y) : TW x y := .inl h.symm
def isNilI : T → Option Bool
  | .d (.v .nilIface) => some true
  | .d (.v (.iface _ _)) => some false
  | .d (.ip _ _) => some false
  | .ipr _ _ => some false
  | _ => none
def isNilF : T → Option Bool
  | .d (.v .nilFunc) => some true
  | .d (.v (.func _ _ _)) => some false
  | .d (.fn _ _) => some false
  | _ => none
def isNilS (h : Nat → Option Obj) : T → Option Bool
  | .d (.v (.slice none 0 0)) => some true
  | .d (.sl _ (_ :: _)) => some false
  | .gs k => match h k with
    | some ⟨some (_, _, nn), cells⟩ => match cells, nn with
      | [], true => some true
      | _ :: _, _ => some false
      | _, _ => none
    | _ => none
  | _ => none
theorem isNilT_i {P : Program} {h : Nat → Option Obj} {t : TypeId} {x : T} (hu : (match P.underlying t with | some (.interface _) => true | _ => false) = true) : isNilT P h t x = isNilI x := by
  unfold isNilT isNilI
  split at hu
  · rename_i e; rw [e]; rfl
  · cases hu
theorem isNilT_f {P : Program} {h : Nat → Option Obj} {t : TypeId} {x : T} (hu : (match P.underlying t with | some (.func _ _ _) => true | _ => false) = true) : isNilT P h t x = isNilF x := by
  unfold isNilT isNilF
  split at hu
  · rename_i e; rw [e]; rfl
  · cases hu
theorem isNilT_s {P : Program} {h : Nat → Option Obj} {t : TypeId} {x : T} {e : TypeId} (hu : P.underlying t = some (.slice e)) : isNilT P h t x = isNilS h x := by
  unfold isNilT isNilS
  rw [hu]; rfl
abbrev intD (n : Int) : D := .v (.int .i64 n)
theorem w64 {n : Int} (h : -9223372036854775808 ≤ n ∧ n ≤ 9223372036854775807) : IntKind.i64.wrap n = n := IntWalk.i64_in n h
attribute [go_sem] initT List.map_cons List.map_nil List.getElem?_cons_zero List.getElem?_cons_succ List.getElem?_nil List.length_cons List.length_nil List.drop_succ_cons List.drop_zero List.take_succ_cons List.take_zero List.take_nil List.drop_nil List.set_cons_zero List.set_cons_succ
  Option.map_some Option.map_none and_true true_and if_true Bool.false_eq_true List.replicate_succ List.replicate_zero List.nil_append List.cons_append asDs_map Bool.not_true Bool.not_false forall_const not_true_eq_false not_false_eq_true Nat.zero_add Nat.add_zero
attribute [go_sem] glbD tabG
attribute [go_sem] cellT resL allTW allH loadT fieldT indexT lenT boundT sliceT extractT arrIndexT bin2 bin2.strT bin2.boolT bin2.aggT nil2 unT convT mkIfaceT nilCheckT buildT pickT isNilI isNilS isNilF pint pshift isShift pfloat ceq eqAgg
  cellsT oneD Value.oneCell' setCells fillT asDs srcT killT Obj.kill commT Obj.comm resT resD oneOf minmaxT foldF
section
attribute [go_sem_proc] Int.reduceEq Nat.reduceEqDiff Nat.reduceAdd Nat.reduceMul Nat.reduceSub Nat.reduceDiv Nat.reduceLeDiff Nat.reduceLT Nat.reduceBEq Nat.reduceBNe reduceCtorEq Int.reduceLE Int.reduceLT Int.reduceToNat
attribute [go_sem_proc ↓] reduceIte
attribute [go_sem] decide_true decide_false
end
end Go.Enc
