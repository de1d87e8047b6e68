/-
  Ghost moves (a nil slice as a row of one's own; a row that stays from now on), returns, the contract out of the body.
-/
import Derived.Test.YtjlibljfpkmpfaaDoorCode
namespace Go.Enc
open Go.RowKit

section
variable {C : Ctx} {σ : Mem} {G : Gh} {s : St} {a : Act} {w : World} {Q : Exit → St → Prop}

/-- A slot that holds the nil slice: a row of one's own, empty yet. -/
theorem dwp_nil {c : Code} (x k : Nat) (e : TypeId) (size : Nat) (hx : s.t x = .d (.v (.slice none 0 0))) (hk : s.h k = none)
    (h : DWp C c Q { t := upd s.t x (.gs k), h := upd s.h k (some ⟨some (e, size, true), []⟩) }) : DWp C c Q s := fun σ G a w S => by
  have hrow : w.grownBy w none := ⟨rfl, rfl, rfl, Nat.le_refl _, fun _ _ _ => rfl⟩
  have S1 := S.fresh (g := (none, .slice none 0 0)) (o := ⟨some (e, size, true), []⟩) hk hrow (by simp) (by
    simp only [ObjIs, upd_same]
    exact ⟨0, [], World.ownsRow_nil w C.base e size, rfl, rfl, fun _ _ => trivial⟩) (by simp) (by simp)
  refine h σ _ a w { S1 with slot := fun i => ?_, live := fun i j hj => ?_ }
  · simp only [upd]
    split
    · rename_i e; subst e
      have := S.slot i
      rw [hx] at this
      simp only [RepT, Rep] at this
      simp [RepT, this, upd_same]
    · exact S1.slot i
  · simp only [upd] at hj
    split at hj
    · simp only [T.ref, Option.some.injEq] at hj; subst hj; simp [upd_same]
    · exact S1.live i j hj

/-- How a reference to a row that stays from now on reads. -/
def commT (k : Nat) (o : Obj) (ds : List D) : T → T
  | .gs j => if j = k then (match o.vec with | some (_, size, _) => .d (.sl size ds) | none => .d .any) else .gs j
  | .ptr j off => if j = k then .d (.pd ds off) else .ptr j off
  | .ipr t j => if j = k then (match o.vec with | none => .d (.ip t ds) | _ => .d .any) else .ipr t j
  | .d x => .d x
def Obj.comm (k : Nat) (o : Obj) (ds : List D) (p : Obj) : Obj := { p with cells := p.cells.map (commT k o ds) }
def St.comm (s : St) (k : Nat) (o : Obj) (ds : List D) : St := { t := fun i => commT k o ds (s.t i), h := fun i => if i = k then none else (s.h i).map (Obj.comm k o ds) }

theorem commT_ref {k j : Nat} {o : Obj} {ds : List D} {c : T} (h : (commT k o ds c).ref = some j) : c.ref = some j ∧ j ≠ k := by
  cases c <;> simp only [commT] at h <;> (try (simp [T.ref] at h; done)) <;> split at h <;> (try (split at h)) <;> simp [T.ref] at h <;> subst h <;> simp_all [T.ref]

theorem RepTU.mapT {f : T → T} (hf : ∀ c u, RepT σ G c u → RepT σ G (f c) u) : ∀ {cs : List T} {us : List Value}, RepTU σ G cs us → RepTU σ G (cs.map f) us
  | [], _, h => h
  | _ :: _, _, ⟨u, r, h1, h0, h2, h3⟩ => ⟨u, r, h1, h0, hf _ _ h2, RepTU.mapT hf h3⟩

theorem ObjIs.mapT {f : T → T} (hf : ∀ c u, RepT σ G c u → RepT σ G (f c) u) {k b : Nat} {o : Obj} (h : ObjIs σ G w b k o) : ObjIs σ G w b k { o with cells := o.cells.map f } := by
  unfold ObjIs at h ⊢
  simp only
  split at h
  · obtain ⟨x, us, ty, h1, h2, h3, h4, h5⟩ := h
    exact ⟨x, us, ty, h1, h2, h3, h4.mapT hf, h5⟩
  · obtain ⟨n, us, h1, h2, h3, h4⟩ := h
    exact ⟨n, us, h1, h2.mapT hf, h3, fun hn he => h4 hn (by simpa using he)⟩

theorem Stands.comm (S : Stands C σ G s a w) {k : Nat} {o : Obj} (ho : s.h k = some o) {ds : List D} (hds : asDs o.cells = some ds) : ∃ σ', Stands C σ' G (s.comm k o ds) a w := by
  have hO := S.obj k o ho
  -- what is known from now on
  let σ' : Mem := fun b i => if (G k).1 = some b then (if i < o.cells.length then (w.cell? ⟨b, i, none⟩) else none) else σ b i
  have hle : σ.le σ' := fun b i u h => by
    simp only [σ']
    split
    · rename_i e; have := S.own k o b ho e i; rw [h] at this; cases this
    · exact h
  have hcells : ∀ b, (G k).1 = some b → RepC σ' ds b 0 := fun b hb => by
    obtain ⟨_, cur, ty, us, h1, h2, sp, h3⟩ := S.row ho hb
    have h4 := (h2.mono hle).data hds
    refine RepC.of_values h4 fun i u hi => ?_
    have hlt : i < us.length := by
      rcases Nat.lt_or_ge i us.length with h | h
      · exact h
      · rw [List.getElem?_eq_none h] at hi; cases hi
    simp only [σ', hb, if_true, Nat.zero_add]
    rw [if_pos (by rw [← h2.length]; exact hlt), cell_of_row w b i cur ty (0, 0) h1, ← Array.getElem?_toList, h3, List.getElem?_append_left hlt]
    exact hi
  have hf : ∀ c u, RepT σ' G c u → RepT σ' G (commT k o ds c) u := fun c u h => by
    cases c with
    | d x => exact h
    | ptr j off =>
      simp only [commT]
      split
      · rename_i e; subst e
        simp only [RepT] at h
        obtain ⟨b, hb, rfl⟩ := h
        simp only [RepT, Rep]
        exact ⟨b, 0, by simp, hcells b hb⟩
      · exact h
    | gs j =>
      simp only [commT]
      split
      · rename_i e; subst e
        simp only [RepT] at h
        subst h
        unfold ObjIs at hO
        split at hO
        · rename_i hv; simp only [hv, RepT, Rep]
        · rename_i e size nn hv
          simp only [hv, RepT, Rep]
          obtain ⟨n, us, g1, g2, g3, g4⟩ := hO
          have hl : ds.length = n * size := by
            have := (g2.data hds).length
            rw [← this, g1.1]
          rcases g1.2 with ⟨hnil, hz⟩ | ⟨g, cap, cur, hval, _, _, hnc, hcm, _⟩
          · exact .inl ⟨hnil, List.eq_nil_of_length_eq_zero (by rw [hl, hz]; simp)⟩
          · exact .inr ⟨g, 0, n, cap, hval, hl, hnc, hcm, hcells g (by rw [g3, hval]; rfl)⟩
      · exact h
    | ipr t j =>
      simp only [commT]
      split
      · rename_i e; subst e
        simp only [RepT] at h
        obtain ⟨b, hb, rfl⟩ := h
        split
        · simp only [RepT, Rep]; exact ⟨b, 0, rfl, hcells b hb⟩
        · simp [RepT, Rep]
      · exact h
  have hh : ∀ j p, (s.comm k o ds).h j = some p → j ≠ k ∧ ∃ p', s.h j = some p' ∧ p = Obj.comm k o ds p' := by
    intro j p h
    simp only [St.comm] at h
    split at h
    · cases h
    · rename_i hne
      simp only [Option.map_eq_some_iff] at h
      obtain ⟨p', h1, h2⟩ := h
      exact ⟨hne, p', h1, h2.symm⟩
  have hlive : ∀ j, s.h j ≠ none → j ≠ k → (s.comm k o ds).h j ≠ none := by
    intro j h1 h2
    simp only [St.comm, h2, if_false]
    cases h : s.h j with
    | none => exact absurd h h1
    | some o => simp
  have hm : ∀ j p, ObjIs σ G w C.base j p → ObjIs σ' G w C.base j p := fun j p h => by
    unfold ObjIs at h ⊢
    split at h
    · obtain ⟨x, us, ty, h1, h2, h3, h4, h5⟩ := h; exact ⟨x, us, ty, h1, h2, h3, h4.mono hle, h5⟩
    · obtain ⟨n, us, h1, h2, h3, h4⟩ := h; exact ⟨n, us, h1, h2.mono hle, h3, h4⟩
  refine ⟨σ', { S with
    le := Mem.le_trans S.le hle
    old := fun b i hb => ?_
    inv := fun b i u h => ?_
    hard := fun b i u h he => ?_
    slot := fun i => hf _ _ ((S.slot i).mono hle)
    live := fun i j hj => ?_
    obj := fun j p h => ?_
    deep := fun j p h c hc j' hj' => ?_
    sep := fun j j' p p' b h h' => ?_
    own := fun j p b h hb i => ?_ }⟩
  · simp only [σ']
    rw [if_neg (fun e => by have := (hO.block e).1; omega)]
    exact S.old b i hb
  · simp only [σ'] at h
    split at h
    · split at h
      · exact h
      · cases h
    · exact S.inv b i u h
  · simp only [σ'] at h
    split at h
    · rename_i e
      obtain ⟨_, cur, ty, us, h1, h2, sp, h3⟩ := S.row ho e
      exact ⟨cur, ty, _, h1⟩
    · exact S.hard b i u h he
  · obtain ⟨h1, h2⟩ := commT_ref hj
    exact hlive j (S.live i j h1) h2
  · obtain ⟨_, p', h1, rfl⟩ := hh j p h
    exact (hm j p' (S.obj j p' h1)).mapT hf
  · obtain ⟨_, p', h1, rfl⟩ := hh j p h
    simp only [Obj.comm, List.mem_map] at hc
    obtain ⟨c', hc', rfl⟩ := hc
    obtain ⟨h3, h4⟩ := commT_ref hj'
    exact hlive j' (S.deep j p' h1 c' hc' j' h3) h4
  · obtain ⟨_, o1, h1, rfl⟩ := hh j p h
    obtain ⟨_, o2, h2, rfl⟩ := hh j' p' h'
    exact S.sep j j' o1 o2 b h1 h2
  · obtain ⟨hne, o1, h1, rfl⟩ := hh j p h
    simp only [σ']
    rw [if_neg (fun e => hne (S.sep j k o1 o b h1 ho hb e))]
    exact S.own j o1 b h1 hb i

theorem dwp_comm {c : Code} (k : Nat) {o : Obj} (ho : s.h k = some o) {ds : List D} (hds : asDs o.cells = some ds) (h : DWp C c Q (s.comm k o ds)) : DWp C c Q s := fun σ G a w S => by
  obtain ⟨σ', S'⟩ := S.comm ho hds
  exact h σ' G a w S'

@[simp] theorem asDs_map : ∀ cells : List D, asDs (cells.map T.d) = some cells
  | [] => rfl
  | c :: cs => by simp [asDs, asDs_map cs]
/-- What a function's result variables hold. -/
def resD (C : Ctx) (s : St) : List ResultVar → Option (List D)
  | [] => some []
  | .tmp t :: r => match s.t t with
    | .d x => (resD C s r).map (x :: ·)
    | _ => none
  | .cell p t :: r => match s.t p with
    | .ptr k off => match loadT C.P C.E s.h t (.ptr k off) with
      | some (.d x) => (resD C s r).map (x :: ·)
      | _ => none
    | _ => none

def oneOf : List D → D
  | [x] => x
  | xs => .tup xs

def Fin (C : Ctx) (rs : List ResultVar) (s : St) : Res → Prop
  | .data d => ∃ ds, resD C s rs = some ds ∧ oneOf ds = d
  | .own e size nn cells => ∃ t k, rs = [.tmp t] ∧ s.t t = .gs k ∧ s.h k = some ⟨some (e, size, nn), cells.map .d⟩

def Post (C : Ctx) (rs : List ResultVar) (r : Res) : Exit → St → Prop
  | .normal, s => Fin C rs s r
  | .ret, s => Fin C rs s r
  | _, _ => False

def resOne (tmps : Array Value) : ResultVar → Sem Value
  | .tmp t => pure (tmps.getD t undef)
  | .cell p t => do loadVar t (← asAddr (tmps.getD p undef))
theorem results_eq (fn : Func) (tmps : Array Value) : results fn tmps = (do let vs ← fn.results.mapM (resOne tmps); pure (if h : vs.size = 1 then vs[0] else .tuple vs)) := rfl

theorem resD_sound (S : Stands C σ G s a w) : ∀ (rs : List ResultVar) (ds : List D), resD C s rs = some ds →
    ∃ us, (rs.mapM (resOne a.tmps)).run C.P w = .ok us w ∧ RepL σ ds us
  | [], ds, h => by simp only [resD, Option.some.injEq] at h; subst h; exact ⟨[], by simp, by simp [RepL]⟩
  | .tmp t :: r, ds, h => by
    simp only [resD] at h
    have hs := S.slot t
    split at h
    · rename_i x hx
      rw [hx] at hs
      simp only [Option.map_eq_some_iff] at h
      obtain ⟨ds', h', rfl⟩ := h
      obtain ⟨us, h1, h2⟩ := resD_sound S r ds' h'
      refine ⟨a.tmps.getD t undef :: us, ?_, by simp only [RepL]; exact ⟨_, _, rfl, hs, h2⟩⟩
      simp only [List.mapM_cons, Sem.run_bind, resOne, Sem.run_pure, Result.andThen_ok, h1]
    · cases h
  | .cell p t :: r, ds, h => by
    simp only [resD] at h
    have hs := S.slot p
    split at h
    · rename_i k off hx
      rw [hx] at hs
      split at h
      · rename_i x hl
        simp only [Option.map_eq_some_iff] at h
        obtain ⟨ds', h', rfl⟩ := h
        obtain ⟨us, h1, h2⟩ := resD_sound S r ds' h'
        obtain ⟨u, g1, g2, _⟩ := loadT_sound S hl hs
        simp only [RepT] at hs
        obtain ⟨b, _, hp⟩ := hs
        refine ⟨u :: us, ?_, by simp only [RepL]; exact ⟨_, _, rfl, g2, h2⟩⟩
        rw [hp] at g1
        simp only [Instr.loadAt, Instr.sureAddr, Sem.run_bind, Sem.run_pure, Result.andThen_ok] at g1
        have hone : (resOne a.tmps (.cell p t)).run C.P w = .ok u w := by
          simp only [resOne, Sem.run_bind, hp, asAddr, Sem.run_pure, Result.andThen_ok, g1]
        simp only [List.mapM_cons, Sem.run_bind, hone, Sem.run_pure, Result.andThen_ok, h1]
      · cases h
    · cases h

theorem Fin.sound {P : Program} (S : Stands C σ G s a w) (hP : C.P = P) {fn : Func} {r : Res} (h : Fin C fn.results.toList s r) (hb : C.base = C.w0.heap.size) (hinv : ∀ b o u, C.σ0 b o = some u → C.w0.cell? ⟨b, o, none⟩ = some u) (hlow : ∀ b u, C.E b = some u → b < C.base) :
    ∃ u, (results fn a.tmps).run P w = .ok u w ∧ After C.σ0 C.w0 r u w := by
  subst hP
  have after : ∀ u, RepRes σ C.w0.heap.size w r u → After C.σ0 C.w0 r u w := fun u hu =>
    ⟨σ, S.le, fun b o hb' => S.old b o (by rw [hb]; exact hb'), S.inv, fun b o v h1 h2 => S.hard b o v h2 (by
      rw [← hb] at h1
      cases he : C.E b with
      | none => rfl
      | some u => exact absurd (hlow b u he) (by omega)), by rw [← hb]; exact S.bel, hu⟩
  have hmap : ∀ us, (fn.results.toList.mapM (resOne a.tmps)).run C.P w = .ok us w →
      (results fn a.tmps).run C.P w = .ok (if h : us.toArray.size = 1 then us.toArray[0] else .tuple us.toArray) w := fun us h => by
    rw [results_eq, Array.mapM_eq_mapM_toList]
    simp only [Sem.run_bind, Sem.run_map, h, Result.andThen_ok, Sem.run_pure]
  cases r with
  | data d =>
    simp only [Fin] at h
    obtain ⟨ds, h1, rfl⟩ := h
    obtain ⟨us, h2, h3⟩ := resD_sound S _ ds h1
    refine ⟨_, hmap us h2, after _ ?_⟩
    simp only [RepRes]
    cases ds with
    | nil => simp only [RepL] at h3; subst h3; simp [oneOf, Rep, RepL]
    | cons x ds =>
      simp only [RepL] at h3
      obtain ⟨u, r, rfl, h4, h5⟩ := h3
      cases ds with
      | nil => simp only [RepL] at h5; subst h5; simpa [oneOf] using h4
      | cons y ds =>
        simp only [RepL] at h5
        obtain ⟨u', r', rfl, h6, h7⟩ := h5
        simp only [oneOf, List.size_toArray, List.length_cons]
        rw [dif_neg (by omega)]
        simp only [Rep]
        exact ⟨_, rfl, by simp only [RepL]; exact ⟨u, _, rfl, h4, u', r', rfl, h6, h7⟩⟩
  | own e size nn cells =>
    simp only [Fin] at h
    obtain ⟨t, k, hr, ht, hk⟩ := h
    have hs := S.slot t
    rw [ht] at hs
    simp only [RepT] at hs
    have hres : fn.results = #[.tmp t] := by rw [← Array.toArray_toList (xs := fn.results), hr]
    refine ⟨a.tmps.getD t undef, results_tmp hres _ _ _, after _ ?_⟩
    have H := S.obj k _ hk
    simp only [ObjIs] at H
    obtain ⟨n, us, g1, g2, g3, g4⟩ := H
    simp only [RepRes]
    rw [hs]
    refine ⟨n, us, by rw [← hb]; exact g1, g2.data ?_, fun b hb' => S.own k _ b hk (by rw [g3]; exact hb'), fun h1 h2 => g4 h1 (by simp [h2])⟩
    exact asDs_map cells

/-- The state in which a body begins. -/
def St.init (args : List D) : St := { t := fun i => match args[i]? with | some x => .d x | none => .d .any, h := fun _ => none }

/-- THE CONTRACT OUT OF THE BODY. -/
theorem dcall_of {P : Program} {E : Nat → Option Value} {f : FuncId} {fn : Func} {c : Code} {args : List D} {r : Res} (hf : P.funcs[f]? = some fn) (hb : fn.body = some c) (hname : (fn.name == "runtime.NumGoroutine") = false)
    {n : Nat} (hn : fn.ntmps = n) (hfit : fitsC n c = true) (ha : args.length ≤ n) {rs : List ResultVar} (hrs : fn.results.toList = rs)
    (h : ∀ C : Ctx, C.P = P → C.E = E → C.n = n → C.kb = 0 → dcode C c (Post C rs r) (St.init args)) : DCall P E f args r := by
  subst hrs
  intro σ w us hF hargs o a next Q hnext
  have hul := hargs.length
  have hcall : (callFunc f us.toArray).run P w = .ok (.enter f us.toArray) w := by
    have hne : ¬ (fn.name = "runtime.NumGoroutine") := by simpa using hname
    simp [callFunc, hf, hne, hb]
  rw [hcall]
  rw [Oper.upon_enter]
  let C : Ctx := { P := P, E := E, σ0 := σ, w0 := w, base := w.heap.size, n := n, kb := 0 }
  have S : Stands C σ (fun _ => (none, undef)) (St.init args) { tmps := us.toArray ++ Array.replicate (fn.ntmps - us.toArray.size) undef, defers := [] } w := by
    refine { bas := Nat.le_refl _, glob := hF.glob, le := Mem.le_refl _, old := fun _ _ _ => rfl, inv := hF.inv, hard := hF.hard, gp := fun g t x h => ⟨(hF.gp g t x h).lt, hF.gp g t x h⟩, bel := Below.refl _ _, dfr := rfl, siz := by simp [C, hn]; omega, slot := fun i => ?_, live := fun i k hk => ?_, obj := fun k o ho => by simp [St.init] at ho, deep := fun k o ho => by simp [St.init] at ho, sep := fun k k' o o' b ho => by simp [St.init] at ho, own := fun k o b ho => by simp [St.init] at ho }
    · simp only [St.init]
      cases hi : args[i]? with
      | none => simp [RepT, Rep]
      | some x =>
        obtain ⟨u, h1, h2⟩ := hargs.get i x hi
        have hlt : i < us.length := by
          rcases Nat.lt_or_ge i us.length with h | h
          · exact h
          · rw [List.getElem?_eq_none h] at h1; cases h1
        simp only [RepT]
        rw [Array.getD_eq_getD_getElem?, Array.getElem?_append_left (by simpa using hlt)]
        simpa [h1] using h2
    · simp only [St.init] at hk
      split at hk <;> simp [T.ref] at hk
  have hwp := dcode_sound (C := C) c hfit (h C rfl rfl rfl rfl) σ _ _ w S
  refine calls_of_wp hf hb (wp_mono hwp fun e a' w' h' => ?_)
  have fin : (∃ σ' G' s', Fin C fn.results.toList s' r ∧ Stands C σ' G' s' a' w') → a'.defers = [] ∧ ∃ v, (results fn a'.tmps).run P w' = .ok v w' ∧ next (a.put o.dst v) w' := fun ⟨σ', G', s', h1, S'⟩ => by
    obtain ⟨u, h2, h3⟩ := Fin.sound S' rfl h1 rfl hF.inv (fun b u hE => lt_of_cell' (hF.inv _ _ _ (hF.glob b u hE)))
    exact ⟨S'.dfr, u, h2, hnext u w' h3⟩
  cases e with
  | normal => exact fin h'
  | ret => exact fin h'
  | exit id => obtain ⟨_, _, _, h1, _⟩ := h'; exact h1.elim
  | goto l => obtain ⟨_, _, _, h1, _⟩ := h'; exact h1.elim
  | panic ch => exact h'.elim
  | outgrown => exact h'.elim
end
end Go.Enc
