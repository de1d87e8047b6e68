/-
  Ghost moves (a nil slice as a row of one's own; a row that stays from now on), returns, the contract out of the body.
-/
import Derived.Test.YtjlibljfpkmpfaaDoorCode
namespace Go.Enc
open Go.RowKit

section
variable {C : Ctx} {σ : Mem} {G : Gh} {s : St} {a : Act} {w : World} {Q : Exit → St → Prop}

/-- A slot that holds the nil slice: a row of one's own, empty yet. -/
theorem dwp_nil {c : Code} (x k : Nat) (e : TypeId) (size : Nat) (hx : s.t x = .d (.v (.slice none 0 0))) (hk : s.h k = none)
    (h : DWp C c Q { t := upd s.t x (.gs k), h := upd s.h k (some ⟨some (e, size, true), []⟩) }) : DWp C c Q s := fun σ G a w S => by
  have hrow : w.grownBy w none := ⟨rfl, rfl, rfl, Nat.le_refl _, fun _ _ _ => rfl⟩
  have S1 := S.fresh (g := (none, .slice none 0 0)) (o := ⟨some (e, size, true), []⟩) hk hrow (by simp) (by
    simp only [ObjIs, upd_same]
    exact ⟨0, [], World.ownsRow_nil w C.base e size, rfl, rfl, fun _ _ => trivial⟩) (by simp) (by simp)
  refine h σ _ a w { S1 with slot := fun i => ?_, live := fun i j hj => ?_ }
  · simp only [upd]
    split
    · rename_i e; subst e
      have := S.slot i
      rw [hx] at this
      simp only [RepT, Rep] at this
      simp [RepT, this, upd_same]
    · exact S1.slot i
  · simp only [upd] at hj
    split at hj
    · simp only [T.ref, Option.some.injEq] at hj; subst hj; simp [upd_same]
    · exact S1.live i j hj

theorem dwp_comm {c : Code} (k : Nat) {o : Obj} (ho : s.h k = some o) {ds : List D} (hds : asDs o.cells = some ds) (h : DWp C c Q (s.comm k o ds)) : DWp C c Q s := fun σ G a w S => by
  obtain ⟨σ', S'⟩ := S.comm ho hds
  exact h σ' G a w S'

/-- What a function's result variables hold. -/
def resD (C : Ctx) (s : St) : List ResultVar → Option (List D)
  | [] => some []
  | .tmp t :: r => match s.t t with
    | .d x => (resD C s r).map (x :: ·)
    | _ => none
  | .cell p t :: r => match s.t p with
    | .ptr k off => match loadT C.P C.E s.h t (.ptr k off) with
      | some (.d x) => (resD C s r).map (x :: ·)
      | _ => none
    | _ => none

def oneOf : List D → D
  | [x] => x
  | xs => .tup xs

/-- Rows that are handed back stay as they are. -/
def commR (s : St) : List ResultVar → (St → Prop) → Prop
  | [], K => K s
  | .tmp t :: r, K => commOne s (s.t t) fun s' => commR s' r K
  | .cell _ _ :: r, K => commR s r K
theorem commR_sound {C : Ctx} {G : Gh} {a : Act} {w : World} : ∀ (l : List ResultVar) {σ : Mem} {s : St} {K : St → Prop}, Stands C σ G s a w → commR s l K → ∃ σ' s', Stands C σ' G s' a w ∧ K s'
  | [], σ, s, _, S, h => ⟨σ, s, S, h⟩
  | .tmp _ :: r, _, _, _, S, h => by
    simp only [commR] at h
    obtain ⟨σ1, s1, S1, h1⟩ := commOne_sound S h
    exact commR_sound r S1 h1
  | .cell _ _ :: r, _, _, _, S, h => commR_sound r S (by simpa only [commR] using h)

def Fin (C : Ctx) (rs : List ResultVar) (s : St) : Res → Prop
  | .data d => commR s rs fun s => ∃ ds, resD C s rs = some ds ∧ oneOf ds = d
  | .own e size nn cells => ∃ t k, rs = [.tmp t] ∧ s.t t = .gs k ∧ s.h k = some ⟨some (e, size, nn), cells.map .d⟩

def Post (C : Ctx) (rs : List ResultVar) (r : Res) : Exit → St → Prop
  | .normal, s => Fin C rs s r
  | .ret, s => Fin C rs s r
  | _, _ => False

def resOne (tmps : Array Value) : ResultVar → Sem Value
  | .tmp t => pure (tmps.getD t undef)
  | .cell p t => do loadVar t (← asAddr (tmps.getD p undef))
theorem results_eq (fn : Func) (tmps : Array Value) : results fn tmps = (do let vs ← fn.results.mapM (resOne tmps); pure (if h : vs.size = 1 then vs[0] else .tuple vs)) := rfl

theorem resD_sound (S : Stands C σ G s a w) : ∀ (rs : List ResultVar) (ds : List D), resD C s rs = some ds →
    ∃ us, (rs.mapM (resOne a.tmps)).run C.P w = .ok us w ∧ RepL σ ds us
  | [], ds, h => by simp only [resD, Option.some.injEq] at h; subst h; exact ⟨[], by simp, by simp [RepL]⟩
  | .tmp t :: r, ds, h => by
    simp only [resD] at h
    have hs := S.slot t
    split at h
    · rename_i x hx
      rw [hx] at hs
      simp only [Option.map_eq_some_iff] at h
      obtain ⟨ds', h', rfl⟩ := h
      obtain ⟨us, h1, h2⟩ := resD_sound S r ds' h'
      refine ⟨a.tmps.getD t undef :: us, ?_, by simp only [RepL]; exact ⟨_, _, rfl, hs, h2⟩⟩
      simp only [List.mapM_cons, Sem.run_bind, resOne, Sem.run_pure, Result.andThen_ok, h1]
    · cases h
  | .cell p t :: r, ds, h => by
    simp only [resD] at h
    have hs := S.slot p
    split at h
    · rename_i k off hx
      rw [hx] at hs
      split at h
      · rename_i x hl
        simp only [Option.map_eq_some_iff] at h
        obtain ⟨ds', h', rfl⟩ := h
        obtain ⟨us, h1, h2⟩ := resD_sound S r ds' h'
        obtain ⟨u, g1, g2, _⟩ := loadT_sound S hl hs
        simp only [RepT] at hs
        obtain ⟨b, _, hp⟩ := hs
        refine ⟨u :: us, ?_, by simp only [RepL]; exact ⟨_, _, rfl, g2, h2⟩⟩
        rw [hp] at g1
        simp only [Instr.loadAt, Instr.sureAddr, Sem.run_bind, Sem.run_pure, Result.andThen_ok] at g1
        have hone : (resOne a.tmps (.cell p t)).run C.P w = .ok u w := by
          simp only [resOne, Sem.run_bind, hp, asAddr, Sem.run_pure, Result.andThen_ok, g1]
        simp only [List.mapM_cons, Sem.run_bind, hone, Sem.run_pure, Result.andThen_ok, h1]
      · cases h
    · cases h

theorem Fin.sound {P : Program} (S : Stands C σ G s a w) (hP : C.P = P) {fn : Func} {r : Res} (h : Fin C fn.results.toList s r) (hb : C.base = C.w0.heap.size) (hinv : ∀ b o u, C.σ0 b o = some u → C.w0.cell? ⟨b, o, none⟩ = some u) (hlow : ∀ b u, C.E b = some u → b < C.base) :
    ∃ u, (results fn a.tmps).run P w = .ok u w ∧ After C.σ0 C.w0 r u w := by
  subst hP
  have ⟨σ, s, S, h⟩ : ∃ σ s, Stands C σ G s a w ∧ (match r with | .data d => ∃ ds, resD C s fn.results.toList = some ds ∧ oneOf ds = d | r => Fin C fn.results.toList s r) := by
    cases r with
    | data d => exact commR_sound _ S h
    | own e size nn cells => exact ⟨σ, s, S, h⟩
  have after : ∀ u, RepRes σ C.w0.heap.size w r u → After C.σ0 C.w0 r u w := fun u hu =>
    ⟨σ, S.le, fun b o hb' => S.old b o (by rw [hb]; exact hb'), S.inv, fun b o v h1 h2 => S.hard b o v h2 (by
      rw [← hb] at h1
      cases he : C.E b with
      | none => rfl
      | some u => exact absurd (hlow b u he) (by omega)), by rw [← hb]; exact S.bel, hu⟩
  have hmap : ∀ us, (fn.results.toList.mapM (resOne a.tmps)).run C.P w = .ok us w →
      (results fn a.tmps).run C.P w = .ok (if h : us.toArray.size = 1 then us.toArray[0] else .tuple us.toArray) w := fun us h => by
    rw [results_eq, Array.mapM_eq_mapM_toList]
    simp only [Sem.run_bind, Sem.run_map, h, Result.andThen_ok, Sem.run_pure]
  cases r with
  | data d =>
    simp only at h
    obtain ⟨ds, h1, rfl⟩ := h
    obtain ⟨us, h2, h3⟩ := resD_sound S _ ds h1
    refine ⟨_, hmap us h2, after _ ?_⟩
    simp only [RepRes]
    cases ds with
    | nil => simp only [RepL] at h3; subst h3; simp [oneOf, Rep, RepL]
    | cons x ds =>
      simp only [RepL] at h3
      obtain ⟨u, r, rfl, h4, h5⟩ := h3
      cases ds with
      | nil => simp only [RepL] at h5; subst h5; simpa [oneOf] using h4
      | cons y ds =>
        simp only [RepL] at h5
        obtain ⟨u', r', rfl, h6, h7⟩ := h5
        simp only [oneOf, List.size_toArray, List.length_cons]
        rw [dif_neg (by omega)]
        simp only [Rep]
        exact ⟨_, rfl, by simp only [RepL]; exact ⟨u, _, rfl, h4, u', r', rfl, h6, h7⟩⟩
  | own e size nn cells =>
    simp only [Fin] at h
    obtain ⟨t, k, hr, ht, hk⟩ := h
    have hs := S.slot t
    rw [ht] at hs
    simp only [RepT] at hs
    have hres : fn.results = #[.tmp t] := by rw [← Array.toArray_toList (xs := fn.results), hr]
    refine ⟨a.tmps.getD t undef, results_tmp hres _ _ _, after _ ?_⟩
    have H := S.obj k _ hk
    simp only [ObjIs] at H
    obtain ⟨n, us, g1, g2, g3, g4⟩ := H
    simp only [RepRes]
    rw [hs]
    refine ⟨n, us, by rw [← hb]; exact g1, g2.data ?_, fun b hb' => S.own k _ b hk (by rw [g3]; exact hb'), fun h1 h2 => g4 h1 (by simp [h2])⟩
    exact asDs_map cells

/-- The state in which a body begins. -/
def St.init (args : List D) : St := { t := fun i => match args[i]? with | some x => .d x | none => .d .any, h := fun _ => none }

/-- THE CONTRACT OUT OF THE BODY. -/
theorem dcall_of_ {P : Program} {E : Nat → Option Value} {f : FuncId} {fn : Func} {c : Code} {args : List D} {r : Res} (hf : P.funcs[f]? = some fn) (hb : fn.body = some c) (hname : (fn.name == "runtime.NumGoroutine") = false)
    {n : Nat} (hn : fn.ntmps = n) (hfit : fitsC n c = true) (ha : args.length ≤ n) {rs : List ResultVar} (hrs : fn.results.toList = rs)
    (h : ∀ C : Ctx, C.P = P → C.E = E → C.n = n → C.kb = 0 → dcode C c (Post C rs r) (St.init args)) : DCall P E f args r := by
  subst hrs
  intro σ w us hF hargs o a next Q hnext
  have hul := hargs.length
  have hcall : (callFunc f us.toArray).run P w = .ok (.enter f us.toArray) w := by
    have hne : ¬ (fn.name = "runtime.NumGoroutine") := by simpa using hname
    simp [callFunc, hf, hne, hb]
  rw [hcall]
  rw [Oper.upon_enter]
  let C : Ctx := { P := P, E := E, σ0 := σ, w0 := w, base := w.heap.size, n := n, kb := 0 }
  have S : Stands C σ (fun _ => (none, undef)) (St.init args) { tmps := us.toArray ++ Array.replicate (fn.ntmps - us.toArray.size) undef, defers := [] } w := by
    refine { bas := Nat.le_refl _, glob := hF.glob, le := Mem.le_refl _, old := fun _ _ _ => rfl, inv := hF.inv, hard := hF.hard, gp := fun g t x h => ⟨(hF.gp g t x h).lt, hF.gp g t x h⟩, bel := Below.refl _ _, dfr := rfl, siz := by simp [C, hn]; omega, slot := fun i => ?_, live := fun i k hk => ?_, obj := fun k o ho => by simp [St.init] at ho, deep := fun k o ho => by simp [St.init] at ho, sep := fun k k' o o' b ho => by simp [St.init] at ho, own := fun k o b ho => by simp [St.init] at ho }
    · simp only [St.init]
      cases hi : args[i]? with
      | none => simp [RepT, Rep]
      | some x =>
        obtain ⟨u, h1, h2⟩ := hargs.get i x hi
        have hlt : i < us.length := by
          rcases Nat.lt_or_ge i us.length with h | h
          · exact h
          · rw [List.getElem?_eq_none h] at h1; cases h1
        simp only [RepT]
        rw [Array.getD_eq_getD_getElem?, Array.getElem?_append_left (by simpa using hlt)]
        simpa [h1] using h2
    · simp only [St.init] at hk
      split at hk <;> simp [T.ref] at hk
  have hwp := dcode_sound (C := C) c hfit (h C rfl rfl rfl rfl) σ _ _ w S
  refine calls_of_wp hf hb (wp_mono hwp fun e a' w' h' => ?_)
  have fin : (∃ σ' G' s', Fin C fn.results.toList s' r ∧ Stands C σ' G' s' a' w') → a'.defers = [] ∧ ∃ v, (results fn a'.tmps).run P w' = .ok v w' ∧ next (a.put o.dst v) w' := fun ⟨σ', G', s', h1, S'⟩ => by
    obtain ⟨u, h2, h3⟩ := Fin.sound S' rfl h1 rfl hF.inv (fun b u hE => lt_of_cell' (hF.inv _ _ _ (hF.glob b u hE)))
    exact ⟨S'.dfr, u, h2, hnext u w' h3⟩
  cases e with
  | normal => exact fin h'
  | ret => exact fin h'
  | exit id => obtain ⟨_, _, _, h1, _⟩ := h'; exact h1.elim
  | goto l => obtain ⟨_, _, _, h1, _⟩ := h'; exact h1.elim
  | panic ch => exact h'.elim
  | outgrown => exact h'.elim
end
end Go.Enc
