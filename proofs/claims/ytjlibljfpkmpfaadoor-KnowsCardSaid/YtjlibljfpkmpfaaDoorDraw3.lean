/-
  Whatever order a region draws: it comes to where the text's order comes.
-/
import Derived.Test.YtjlibljfpkmpfaaDoorDraw2
namespace Go.Enc
open Go.RowKit

section
variable {C : Ctx} {s s' : St} {ops : Array Oper} {o : Oper}

theorem WF.ev (W : WF s) (x : Operand) : ∀ k, (s.ev x).ref = some k → s.h k ≠ none := fun k hk => by
  cases x with
  | tmp i => exact W.live i k hk
  | _ => simp [St.ev, T.ref] at hk

theorem WF.put (W : WF s) {d : Option Nat} {x : T} (hx : ∀ k, x.ref = some k → s.h k ≠ none) : WF (s.put d x) := by
  cases d with
  | none => exact W
  | some d =>
    refine ⟨fun i k hk => ?_, W.deep⟩
    simp only [put_t] at hk
    split at hk
    · exact hx k hk
    · exact W.live i k hk

theorem fillT_refs {place : Nat → Option (Nat × Nat)} {p : T → Prop} (hp : ∀ c cs, cellsT c = some cs → p c → ∀ c' ∈ cs, p c') : ∀ {parts : List (Nat × T)} {cells r : List T}, fillT place cells parts = some r → (∀ c ∈ cells, p c) → (∀ q ∈ parts, p q.2) → ∀ c ∈ r, p c
  | [], cells, r, h, hc, _ => by simp only [fillT, Option.some.injEq] at h; subst h; exact hc
  | (i, c) :: rest, cells, r, h, hc, hq => by
    simp only [fillT] at h
    split at h
    · rename_i off size cs _ hcs
      split at h
      · exact fillT_refs hp h (setCells_live hc (hp c cs hcs (hq (i, c) (by simp)))) (fun q hq' => hq q (by simp [hq']))
      · cases h
    · cases h

theorem WF.fresh (W : WF s) {d k : Nat} {ob : Obj} {x : T} (hk : s.h k = none) (hob : ∀ c ∈ ob.cells, ∀ j, c.ref = some j → s.h j ≠ none) (hx : ∀ j, x.ref = some j → j = k) : WF ((s.new k ob).put (some d) x) := by
  have hl : ∀ j, s.h j ≠ none → (s.new k ob).h j ≠ none := fun j hj => by
    simp only [St.new, upd]
    split
    · simp
    · exact hj
  have W1 : WF (s.new k ob) := by
    refine ⟨fun i j hj => hl j (W.live i j hj), fun j o' ho' c hc k' hk' => ?_⟩
    simp only [St.new, upd] at ho'
    split at ho'
    · cases ho'; exact hl k' (hob c hc k' hk')
    · exact hl k' (W.deep j o' ho' c hc k' hk')
  exact W1.put fun j hj => by rw [hx j hj]; simp [St.new, upd]

theorem WF.st (W : WF s) {k : Nat} {ob ob' : Obj} {d : Option Nat} (hk : s.h k = some ob) (hob : ∀ c ∈ ob'.cells, ∀ j, c.ref = some j → s.h j ≠ none) : WF ((s.setH k ob').put d (.d .any)) := by
  have hl : ∀ j, s.h j ≠ none → (s.setH k ob').h j ≠ none := fun j hj => by
    simp only [St.setH, upd]
    split
    · simp
    · exact hj
  have W1 : WF (s.setH k ob') := by
    refine ⟨fun i j hj => hl j (W.live i j hj), fun j o' ho' c hc k' hk' => ?_⟩
    simp only [St.setH, upd] at ho'
    split at ho'
    · cases ho'; exact hl k' (hob c hc k' hk')
    · exact hl k' (W.deep j o' ho' c hc k' hk')
  exact W1.put (by simp [T.ref])

/-- What kind of thing an operation does. -/
inductive Shp (C : Ctx) (o : Oper) (s : St) : Ac → Prop where
  | put (x : T) : Shp C o s (.put o.dst x)
  | mk (d : Nat) (ob : Obj) (x : T) (hd : o.dst = some d) (hk : s.h (C.kb + d) = none) (hm : kindOf o.op = .makes) : Shp C o s (.mk d (C.kb + d) ob x)
  | st (k : Nat) (ob ob' : Obj) (hk : s.h k = some ob) (hm : kindOf o.op = .stores) : Shp C o s (.st k ob' o.dst)

theorem does1_shape (W : WF s) {ac : Ac} (h : Does1 C o s ac) : Shp C o s ac ∧ WF (ac.app s) := by
  have last : ∀ op', (∃ r, yld C.P C.E s op' = some r ∧ ac = .put o.dst r) → Shp C o s ac ∧ WF (ac.app s) := fun op' ⟨r, h1, h2⟩ => by
    subst h2; exact ⟨.put r, W.put (yld_live W h1)⟩
  unfold Does1 at h
  split at h
  · rename_i t hop
    obtain ⟨d, cs, h1, h2, h3, rfl⟩ := h
    obtain ⟨_, _, _, _, z4, _⟩ := zeroT_spec (σ := fun _ _ => none) (G := fun _ => (none, undef)) (w := default) h2
    exact ⟨.mk d _ _ h1 h3 (by rw [hop]; rfl), W.fresh h3 (fun c hc j hj => by rw [z4 c hc] at hj; cases hj) (fun j hj => by simpa [T.ref] using hj.symm)⟩
  · rename_i t x hop
    obtain ⟨d, cs, h1, h2, h3, rfl⟩ := h
    exact ⟨.mk d _ _ h1 h3 (by rw [hop]; rfl), W.fresh h3 (fun c hc j hj => W.ev x j (cellsT_refs h2 c hc j hj)) (fun j hj => by simpa [T.ref] using hj.symm)⟩
  · rename_i t len parts hop
    obtain ⟨d, e, size, bytes, zs, cells, h1, h2, h3, h4, h5, h6, rfl⟩ := h
    refine ⟨.mk d _ _ h1 h6 (by rw [hop]; rfl), W.fresh h6 ?_ (fun j hj => by simpa [T.ref] using hj.symm)⟩
    refine fillT_refs (p := fun c => ∀ j, c.ref = some j → s.h j ≠ none) (fun c cs hc hp c' hc' j hj => hp j (cellsT_refs hc c' hc' j hj)) h5 (fun c hc j hj => by rw [List.eq_of_mem_replicate hc] at hj; simp [T.ref] at hj) (fun q hq j hj => ?_)
    simp only [List.mem_map] at hq
    obtain ⟨p, _, rfl⟩ := hq
    exact W.ev p.2 j hj
  · rename_i t p x hop
    obtain ⟨k, off, ob, cs, h1, h2, h3, h4, h5, rfl⟩ := h
    exact ⟨.st k ob _ h2 (by rw [hop]; rfl), W.st h2 (setCells_live (p := fun c => ∀ j, c.ref = some j → s.h j ≠ none) (W.deep k ob h2) (fun c hc j hj => W.ev x j (cellsT_refs h3 c hc j hj)))⟩
  · rename_i f args ts hop
    obtain ⟨g, ds, r, h1, hg, h2, h3, h4⟩ := h
    subst h1
    rcases h4 with ⟨x, _, rfl⟩ | ⟨d, e, size, nn, cells, _, h5, h6, rfl⟩
    · exact ⟨.put _, W.put (by simp [T.ref])⟩
    · refine ⟨.mk d _ _ h5 h6 (by rw [hop]; simp [kindOf, hg]), W.fresh h6 (fun c hc j hj => ?_) (fun j hj => by simpa [T.ref] using hj.symm)⟩
      simp only [List.mem_map] at hc
      obtain ⟨y, _, rfl⟩ := hc
      simp [T.ref] at hj
  · exact last _ h

theorem does_shape (W : WF s) {ac : Ac} (h : Does C ops o s ac) : Shp C o s ac ∧ WF (ac.app s) := by
  unfold Does at h
  split at h
  · exact does1_shape W h
  · obtain ⟨d, c, _, _, h⟩ := h
    split at h
    · exact does1_shape W h
    · subst h; exact ⟨.put _, W.put (by simp [T.ref])⟩

/-- Locality. -/
theorem does1_local {ac : Ac} (h : Does1 C o s ac) (he : ∀ x ∈ o.op.operands.toList, s'.ev x = s.ev x)
    (hh : kindOf o.op = .reads ∨ kindOf o.op = .stores → ∀ k, (∃ x ∈ o.op.operands.toList, (s.ev x).ref = some k) → s'.h k = s.h k)
    (hm : ∀ d, o.dst = some d → s.h (C.kb + d) = none → s'.h (C.kb + d) = none) : Does1 C o s' ac := by
  obtain ⟨dst, op, ty, pos, after, guard⟩ := o
  simp only at he hh hm
  have last : (∃ r, yld C.P C.E s op = some r ∧ ac = .put dst r) → ∃ r, yld C.P C.E s' op = some r ∧ ac = .put dst r := fun ⟨r, h1, h2⟩ =>
    ⟨r, by rw [yld_congr he (fun e => hh (.inl e))]; exact h1, h2⟩
  cases op with
  | alloc t =>
    obtain ⟨d, cs, h1, h2, h3, rfl⟩ := h
    exact ⟨d, cs, h1, h2, hm d h1 h3, rfl⟩
  | box t x =>
    obtain ⟨d, cs, h1, h2, h3, rfl⟩ := h
    exact ⟨d, cs, h1, by rw [he x (by simp [Op.operands])]; exact h2, hm d h1 h3, rfl⟩
  | buildSlice t len parts =>
    obtain ⟨d, e, size, bytes, zs, cells, h1, h2, h3, h4, h5, h6, rfl⟩ := h
    refine ⟨d, e, size, bytes, zs, cells, h1, h2, h3, h4, ?_, hm d h1 h6, rfl⟩
    have : (parts.toList.map fun p => (p.1, s'.ev p.2)) = parts.toList.map fun p => (p.1, s.ev p.2) :=
      List.map_congr_left fun p hp => by rw [he p.2 (by simp only [Op.operands]; simp; exact ⟨p.1, by simpa using hp⟩)]
    rw [this]; exact h5
  | store t p x =>
    obtain ⟨k, off, ob, cs, h1, h2, h3, h4, h5, rfl⟩ := h
    have hk : s'.h k = s.h k := hh (.inr rfl) k ⟨p, by simp [Op.operands], by rw [h1]; rfl⟩
    exact ⟨k, off, ob, cs, by rw [he p (by simp [Op.operands])]; exact h1, by rw [hk]; exact h2, by rw [he x (by simp [Op.operands])]; exact h3, h4, h5, rfl⟩
  | call c =>
    obtain ⟨callee, args, ts⟩ := c
    cases callee with
    | value f =>
      obtain ⟨g, ds, r, h1, hg, h2, h3, h4⟩ := h
      have hmap : args.toList.map s'.ev = args.toList.map s.ev := List.map_congr_left fun x hx => he x (by simp [Op.operands, Call.operands]; exact .inr (by simpa using hx))
      refine ⟨g, ds, r, h1, hg, by rw [hmap]; exact h2, h3, ?_⟩
      rcases h4 with h4 | ⟨d, e, size, nn, cells, g1, g2, g3, g4⟩
      · exact .inl h4
      · exact .inr ⟨d, e, size, nn, cells, g1, g2, hm d g2 g3, g4⟩
    | invoke _ _ => exact last h
    | builtin b => exact last h
  | _ => exact last h

theorem does_local {ac : Ac} (h : Does C ops o s ac) (he : ∀ d ∈ o.looksAt ops, s'.t d = s.t d)
    (hh : kindOf o.op = .reads ∨ kindOf o.op = .stores → ∀ k, (∃ x ∈ o.op.operands.toList, (s.ev x).ref = some k) → s'.h k = s.h k)
    (hm : ∀ d, o.dst = some d → s.h (C.kb + d) = none → s'.h (C.kb + d) = none) : Does C ops o s' ac := by
  have he' : ∀ x ∈ o.op.operands.toList, s'.ev x = s.ev x := fun x hx => by
    cases x with
    | tmp t => exact he t (by
        simp only [Oper.looksAt, List.mem_append, List.mem_filterMap]
        exact .inl ⟨.tmp t, hx, rfl⟩)
    | _ => rfl
  unfold Does at h ⊢
  split at h
  · exact does1_local h he' hh hm
  · rename_i j b hg
    obtain ⟨d, c, h1, h2, h3⟩ := h
    have hd : d ∈ o.looksAt ops := by
      simp only [Oper.looksAt, hg, List.mem_append]
      right
      have : (ops[j]?.bind fun x => x.dst) = some d := h1
      simp [this]
    refine ⟨d, c, h1, by rw [he d hd]; exact h2, ?_⟩
    split
    · rename_i e; rw [if_pos e] at h3; exact does1_local h3 he' hh hm
    · rename_i e; rw [if_neg e] at h3; exact h3

/-- May the two be exchanged (the first stands ahead of the second in the text)? -/
def swapOk (ops : Array Oper) (x y : Oper) : Bool :=
  x.apart ops y && kindOf x.op != .bar && kindOf y.op != .bar &&
  !(kindOf x.op == .stores && (kindOf y.op == .reads || kindOf y.op == .stores)) && !(kindOf y.op == .stores && kindOf x.op == .reads)

theorem put_put_comm (s : St) {d e : Option Nat} (x y : T) (h : ∀ i, d = some i → e ≠ some i) : (s.put d x).put e y = (s.put e y).put d x := by
  cases d with
  | none => rfl
  | some i =>
    cases e with
    | none => rfl
    | some j =>
      have hij : j ≠ i := fun c => h i rfl (by rw [c])
      simp only [St.put]
      congr 1
      funext k
      simp only [upd]
      split <;> split <;> first | rfl | (exfalso; omega)

theorem app_comm {x y : Oper} {ax ay : Ac} (hx : Shp C x s ax) (hy : Shp C y s ay) (hd : ∀ i, x.dst = some i → y.dst ≠ some i) (hss : ¬ (kindOf x.op = .stores ∧ kindOf y.op = .stores)) :
    ay.app (ax.app s) = ax.app (ay.app s) := by
  have hn : ∀ (d : Option Nat) (v : T) (k : Nat) (ob : Obj) (s : St), (s.put d v).new k ob = (s.new k ob).put d v := fun d v k ob s => by cases d <;> rfl
  have hs : ∀ (d : Option Nat) (v : T) (k : Nat) (ob : Obj) (s : St), (s.put d v).setH k ob = (s.setH k ob).put d v := fun d v k ob s => by cases d <;> rfl
  have huu : ∀ (f : Nat → Option Obj) {k k' : Nat} (a b : Option Obj), k ≠ k' → upd (upd f k a) k' b = upd (upd f k' b) k a := fun f k k' a b h => by
    funext i; simp only [upd]; split <;> split <;> first | rfl | (exfalso; omega)
  cases hx with
  | put v => cases hy with
    | put v' => exact put_put_comm s v v' hd
    | mk d ob v' h1 h2 h3 => simp only [Ac.app, hn]; exact put_put_comm _ v v' (fun i hi => by rw [← h1]; exact hd i hi)
    | st k ob ob' h1 h2 => simp only [Ac.app, hs]; exact put_put_comm _ v _ hd
  | mk d ob v h1 h2 h3 => cases hy with
    | put v' => simp only [Ac.app, hn]; exact put_put_comm _ v v' (fun i hi => hd i (by rw [h1]; exact hi))
    | mk d' ob' v' g1 g2 g3 =>
      have hne : d ≠ d' := fun e => hd d h1 (by rw [e]; exact g1)
      simp only [Ac.app, hn]
      rw [put_put_comm _ v v' (fun i hi e => hne (by cases hi; cases e; rfl))]
      congr 2
      simp only [St.new]
      rw [huu _ _ _ (by omega)]
    | st k ob1 ob2 g1 g2 =>
      have hne : C.kb + d ≠ k := fun e => by rw [e] at h2; rw [h2] at g1; cases g1
      simp only [Ac.app, hn, hs]
      rw [put_put_comm _ v _ (fun i hi e => hd i (by rw [h1]; exact hi) e)]
      congr 2
      simp only [St.new, St.setH]
      rw [huu _ _ _ hne]
  | st k ob1 ob2 h1 h2 => cases hy with
    | put v' => simp only [Ac.app, hs]; exact put_put_comm _ _ v' hd
    | mk d ob v g1 g2 g3 =>
      have hne : k ≠ C.kb + d := fun e => by rw [← e] at g2; rw [g2] at h1; cases h1
      simp only [Ac.app, hn, hs]
      rw [put_put_comm _ _ v (fun i hi => by rw [← g1]; exact hd i hi)]
      congr 2
      simp only [St.new, St.setH]
      rw [huu _ _ _ hne]
    | st k' _ _ g1 g2 => exact absurd ⟨h2, g2⟩ hss

theorem app_t {x : Oper} {ax : Ac} (hx : Shp C x s ax) {i : Nat} (hi : x.dst ≠ some i) : (ax.app s).t i = s.t i := by
  have hp : ∀ (s : St) (d : Option Nat) (v : T), d ≠ some i → (s.put d v).t i = s.t i := fun s d v h => by
    cases d with
    | none => rfl
    | some d => simp only [put_t]; rw [if_neg (fun e => h (by rw [e]))]
  cases hx with
  | put v => exact hp s _ v hi
  | mk d ob v h1 h2 h3 => simp only [Ac.app]; rw [hp _ _ _ (by rw [← h1]; exact hi)]; rfl
  | st k ob ob' h1 h2 => simp only [Ac.app]; rw [hp _ _ _ hi]; rfl
theorem app_h {x : Oper} {ax : Ac} (hx : Shp C x s ax) {k : Nat} (hk : s.h k ≠ none) (hs : kindOf x.op ≠ .stores) : (ax.app s).h k = s.h k := by
  cases hx with
  | put v => simp only [Ac.app, put_h]
  | mk d ob v h1 h2 h3 => simp only [Ac.app, put_h, St.new, upd]; rw [if_neg (fun e => hk (by rw [e]; exact h2))]
  | st k ob ob' h1 h2 => exact absurd h2 hs
theorem app_none {x : Oper} {ax : Ac} (hx : Shp C x s ax) {d : Nat} (hk : s.h (C.kb + d) = none) (hd : x.dst ≠ some d) : (ax.app s).h (C.kb + d) = none := by
  cases hx with
  | put v => simp only [Ac.app, put_h]; exact hk
  | mk d' ob v h1 h2 h3 => simp only [Ac.app, put_h, St.new, upd]; rw [if_neg (fun e => hd (by rw [h1]; congr 1; omega))]; exact hk
  | st k ob ob' h1 h2 => simp only [Ac.app, put_h, St.setH, upd]; rw [if_neg (fun e => by rw [← e] at h1; rw [hk] at h1; cases h1)]; exact hk
theorem app_none' {x : Oper} {ax : Ac} (hx : Shp C x s ax) {k : Nat} (hk : (ax.app s).h k = none) : s.h k = none := by
  cases hx with
  | put v => simpa only [Ac.app, put_h] using hk
  | mk d' ob v h1 h2 h3 => simp only [Ac.app, put_h, St.new, upd] at hk; split at hk <;> first | cases hk | exact hk
  | st k ob ob' h1 h2 => simp only [Ac.app, put_h, St.setH, upd] at hk; split at hk <;> first | cases hk | exact hk

theorem swap {x y : Oper} {ax ay : Ac} (W : WF s) (hsw : swapOk ops x y = true) (hx : Does C ops x s ax) (hy : Does C ops y (ax.app s) ay) :
    Does C ops y s ay ∧ Does C ops x (ay.app s) ax ∧ ax.app (ay.app s) = ay.app (ax.app s) := by
  simp only [swapOk, Bool.and_eq_true, bne_iff_ne, Bool.not_eq_true', Bool.and_eq_false_iff, Bool.or_eq_false_iff, beq_eq_false_iff_ne] at hsw
  obtain ⟨⟨⟨⟨hap, _⟩, _⟩, h1⟩, h2⟩ := hsw
  obtain ⟨a1, a2, a3⟩ := Oper.apart_spec hap
  obtain ⟨sx, Wx⟩ := does_shape W hx
  have hy' : Does C ops y s ay := by
    refine does_local hy (fun d hd => (app_t sx (fun e => a1 d e hd)).symm) (fun hk k hr => ?_) (fun d hd h => app_none' sx h)
    obtain ⟨z, hz, hzr⟩ := hr
    have hev : (ax.app s).ev z = s.ev z := by
      cases z with
      | tmp t => exact app_t sx (fun e => a1 t e (by simp only [Oper.looksAt, List.mem_append, List.mem_filterMap]; exact .inl ⟨.tmp t, hz, rfl⟩))
      | _ => rfl
    rw [hev] at hzr
    refine (app_h sx (W.ev z k hzr) (fun hst => ?_)).symm
    rcases h1 with h1 | h1
    · exact h1 hst
    · rcases hk with hk | hk
      · exact h1.1 hk
      · exact h1.2 hk
  obtain ⟨sy, _⟩ := does_shape W hy'
  refine ⟨hy', ?_, (app_comm sx sy a2 (fun ⟨e1, e2⟩ => ?_)).symm⟩
  · refine does_local hx (fun d hd => app_t sy (fun e => a3 d e hd)) (fun hk k hr => ?_) (fun d hd h => app_none sy h (fun e => a2 d hd e))
    obtain ⟨z, hz, hzr⟩ := hr
    refine app_h sy (W.ev z k hzr) (fun hst => ?_)
    rcases hk with hk | hk
    · rcases h2 with h2 | h2
      · exact h2 hst
      · exact h2 hk
    · rcases h1 with h1 | h1
      · exact h1 hk
      · exact h1.2 hst
  · rcases h1 with h1 | h1
    · exact h1 e1
    · exact h1.2 e2
/-- A load ahead of a store, through pointers of these slots. -/
def ldst (D : List (Nat × Nat)) (ops : Array Oper) (x y : Oper) : Bool :=
  x.apart ops y && x.guard == none && y.guard == none && match x.op, y.op with
    | .load _ (.tmp p), .store _ (.tmp q) _ => D.contains (p, q)
    | _, _ => false
def swapOkD (D : List (Nat × Nat)) (ops : Array Oper) (x y : Oper) : Bool := swapOk ops x y || ldst D ops x y
/-- The slots point to blocks that are apart. -/
def Ap (D : List (Nat × Nat)) (s : St) : Prop := ∀ pq ∈ D, ∃ k j, (s.t pq.1).ref = some k ∧ (s.t pq.2).ref = some j ∧ k ≠ j
theorem swapL {D : List (Nat × Nat)} {x y : Oper} {ax ay : Ac} (W : WF s) (A : Ap D s) (hsw : ldst D ops x y = true) (hx : Does C ops x s ax) (hy : Does C ops y (ax.app s) ay) :
    Does C ops y s ay ∧ Does C ops x (ay.app s) ax ∧ ax.app (ay.app s) = ay.app (ax.app s) := by
  simp only [ldst, Bool.and_eq_true] at hsw
  obtain ⟨⟨⟨hap, hgx⟩, hgy⟩, hm⟩ := hsw
  split at hm
  · rename_i tx p ty q z hxo hyo
    have hpq : (p, q) ∈ D := by simpa using hm
    obtain ⟨a1, a2, a3⟩ := Oper.apart_spec hap
    obtain ⟨sx, Wx⟩ := does_shape W hx
    have kx : kindOf x.op = .reads := by rw [hxo]; rfl
    have ky : kindOf y.op = .stores := by rw [hyo]; rfl
    have hy' : Does C ops y s ay := by
      refine does_local hy (fun d hd => (app_t sx (fun e => a1 d e hd)).symm) (fun hk k hr => ?_) (fun d hd h => app_none' sx h)
      obtain ⟨z, hz, hzr⟩ := hr
      have hev : (ax.app s).ev z = s.ev z := by
        cases z with
        | tmp t => exact app_t sx (fun e => a1 t e (by simp only [Oper.looksAt, List.mem_append, List.mem_filterMap]; exact .inl ⟨.tmp t, hz, rfl⟩))
        | _ => rfl
      rw [hev] at hzr
      exact (app_h sx (W.ev z k hzr) (by rw [kx]; simp)).symm
    obtain ⟨sy, _⟩ := does_shape W hy'
    refine ⟨hy', ?_, (app_comm sx sy a2 (fun ⟨e1, e2⟩ => by rw [kx] at e1; cases e1)).symm⟩
    refine does_local hx (fun d hd => app_t sy (fun e => a3 d e hd)) (fun hk k hr => ?_) (fun d hd h => app_none sy h (fun e => a2 d hd e))
    obtain ⟨w, hw, hwr⟩ := hr
    rw [hxo] at hw
    simp only [Op.operands] at hw
    have hw' : w = .tmp p := by simpa using hw
    subst hw'
    obtain ⟨kp, kq, b1, b2, b3⟩ := A (p, q) hpq
    have e1 : k = kp := by simp only [St.ev] at hwr; rw [b1] at hwr; exact (Option.some.inj hwr).symm
    subst e1
    have hd1 : Does1 C y s ay := by
      have : y.guard = none := by simpa using hgy
      unfold Does at hy'
      rw [this] at hy'
      exact hy'
    unfold Does1 at hd1
    rw [hyo] at hd1
    obtain ⟨kk, off, ob, cs, c1, c2, c3, c4, c5, rfl⟩ := hd1
    have e2 : kk = kq := by simp only [St.ev] at c1; rw [c1] at b2; exact Option.some.inj b2
    subst e2
    simp only [Ac.app, put_h, setH_h]
    rw [if_neg b3]
  · cases hm
theorem swapD {D : List (Nat × Nat)} {x y : Oper} {ax ay : Ac} (W : WF s) (A : Ap D s) (hsw : swapOkD D ops x y = true) (hx : Does C ops x s ax) (hy : Does C ops y (ax.app s) ay) :
    Does C ops y s ay ∧ Does C ops x (ay.app s) ax ∧ ax.app (ay.app s) = ay.app (ax.app s) := by
  simp only [swapOkD, Bool.or_eq_true] at hsw
  rcases hsw with h | h
  · exact swap W h hx hy
  · exact swapL W A h hx hy
end
end Go.Enc
