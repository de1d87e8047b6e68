/-
  Whatever order a region draws: it comes to where the text's order comes: the law.
-/
import Derived.Test.YtjlibljfpkmpfaaDoorDraw3
namespace Go.Enc
open Go.RowKit

section
variable {C : Ctx} {σ : Mem} {G : Gh} {s : St} {a : Act} {w : World} {Q : Exit → St → Prop} {ops : Array Oper}

theorem Stands.wf (S : Stands C σ G s a w) : WF s := ⟨S.live, S.deep⟩

theorem Stands.drew (S : Stands C σ G s a w) : Stands C σ G s a w.drew :=
  { S with inv := S.inv, hard := S.hard, bel := S.bel.drew, obj := fun k o h => S.obj k o h }

/-- What an operation waits for, at first or second hand. -/
inductive Path (ops : Array Oper) : Nat → Nat → Prop where
  | one {i : Nat} {y : Oper} {e : Edge} (hi : ops[i]? = some y) (he : e ∈ y.after) (hb : Region.binds .any e = true) : Path ops i e.on
  | more {i j : Nat} {y : Oper} {e : Edge} (hi : ops[i]? = some y) (he : e ∈ y.after) (hb : Region.binds .any e = true) (h : Path ops e.on j) : Path ops i j

def waits (acc : List Nat) : List Edge → Nat
  | [] => 0
  | e :: r => (if Region.binds .any e then (1 <<< e.on) ||| acc.getD e.on 0 else 0) ||| waits acc r
def waitsAll : List Oper → List Nat → List Nat
  | [], acc => acc
  | o :: r, acc => waitsAll r (acc ++ [waits acc o.after.toList])

theorem waits_spec {acc : List Nat} : ∀ {es : List Edge} {j : Nat}, (waits acc es).testBit j = true → ∃ e ∈ es, Region.binds .any e = true ∧ (j = e.on ∨ (acc.getD e.on 0).testBit j = true)
  | [], j, h => by simp [waits] at h
  | e :: r, j, h => by
    simp only [waits, Nat.testBit_or, Bool.or_eq_true] at h
    rcases h with h | h
    · split at h
      · rename_i hb
        simp only [Nat.testBit_or, Bool.or_eq_true, Nat.testBit_shiftLeft, Bool.and_eq_true, decide_eq_true_eq] at h
        refine ⟨e, by simp, hb, ?_⟩
        rcases h with ⟨h1, h2⟩ | h
        · left
          rcases Nat.lt_or_ge 0 (j - e.on) with h3 | h3
          · exfalso
            rw [Nat.testBit_one_eq_true_iff_self_eq_zero] at h2; omega
          · omega
        · exact .inr h
      · simp at h
    · obtain ⟨e', h1, h2⟩ := waits_spec h
      exact ⟨e', by simp [h1], h2⟩

theorem waitsAll_spec : ∀ (l : List Oper) (acc : List Nat), (∀ j, l[j]? = ops[acc.length + j]?) → (∀ i j, (acc.getD i 0).testBit j = true → Path ops i j) → ∀ i j, ((waitsAll l acc).getD i 0).testBit j = true → Path ops i j
  | [], acc, _, h, i, j, hij => h i j hij
  | o :: r, acc, hl, h, i, j, hij => by
    refine waitsAll_spec r (acc ++ [waits acc o.after.toList]) (fun j => ?_) (fun i j hij => ?_) i j hij
    · have := hl (j + 1)
      simpa [Nat.add_assoc, Nat.add_comm 1 j] using this
    · rcases Nat.lt_trichotomy i acc.length with h1 | h1 | h1
      · rw [List.getD_eq_getElem?_getD, List.getElem?_append_left h1, ← List.getD_eq_getElem?_getD] at hij
        exact h i j hij
      · subst h1
        rw [List.getD_eq_getElem?_getD] at hij
        simp at hij
        obtain ⟨e, h2, h3, h4⟩ := waits_spec hij
        have ho : ops[acc.length]? = some o := by simpa using (hl 0).symm
        rcases h4 with rfl | h4
        · exact .one ho (by simpa using h2) h3
        · exact .more ho (by simpa using h2) h3 (h _ _ h4)
      · rw [List.getD_eq_getElem?_getD, List.getElem?_eq_none (by simp; omega)] at hij
        simp at hij

/-- May every two operations that nothing orders be exchanged? Edges lead back alone. -/
def orderOkD (D : List (Nat × Nat)) (ops : Array Oper) : Bool :=
  let ww := waitsAll ops.toList []
  (List.range ops.size).all fun i => match ops[i]? with
    | none => true
    | some y => y.after.all (fun e => !Region.binds .any e || decide (e.on < i)) &&
      (List.range i).all fun j => match ops[j]? with
        | none => true
        | some x => (ww.getD i 0).testBit j || swapOkD D ops x y

def orderOk (ops : Array Oper) : Bool := orderOkD [] ops
theorem orderOk_spec {D : List (Nat × Nat)} (h : orderOkD D ops = true) {i : Nat} {y : Oper} (hi : ops[i]? = some y) :
    (∀ e ∈ y.after, Region.binds .any e = true → e.on < i) ∧
    ∀ j x, j < i → ops[j]? = some x → Path ops i j ∨ swapOkD D ops x y = true := by
  have hlt : i < ops.size := (Array.getElem?_eq_some_iff.1 hi).1
  have := List.all_eq_true.1 h i (by simpa using hlt)
  simp only [hi, Bool.and_eq_true, ne_eq, Array.all_eq_true_iff_forall_mem, Bool.or_eq_true, Bool.not_eq_true', decide_eq_true_eq, List.all_eq_true, List.mem_range] at this
  obtain ⟨h2, h3⟩ := this
  refine ⟨fun e he hb => (h2 e he).resolve_left (by simp [hb]), fun j x hj hx => ?_⟩
  have h4 := h3 j hj
  simp only [hx, Bool.or_eq_true] at h4
  rcases h4 with h4 | h4
  · exact .inl (waitsAll_spec ops.toList [] (by simp) (by simp) i j h4)
  · exact .inr h4

/-- What has been gone through is closed. -/
def Closed (ops : Array Oper) (listed : Array Bool) : Prop :=
  ∀ i y, ops[i]? = some y → listed.getD i false = true → ∀ e ∈ y.after, Region.binds .any e = true → listed.getD e.on false = true
theorem Closed.path {listed : Array Bool} (hc : Closed ops listed) {i j : Nat} (h : Path ops i j) : (∀ y, ops[i]? = some y → ∀ e ∈ y.after, Region.binds .any e = true → listed.getD e.on false = true) → listed.getD j false = true := by
  induction h with
  | one hi he hb => intro h; exact h _ hi _ he hb
  | more hi he hb h ih => intro h'; exact ih (fun y hy e' he' hb' => hc _ y hy (h' _ hi _ he hb) e' he' hb')

theorem run1_bar {o : Oper} {K : St → Prop} (ho : kindOf o.op = .bar) (h : run1 C o s K) : ∃ s', (∀ K' : St → Prop, K' s' → run1 C o s K') ∧ K s' := by
  obtain ⟨dst, op, ty, pos, after, guard⟩ := o
  have last : ∀ op', (∀ K, run1 C ⟨dst, op', ty, pos, after, guard⟩ s K = ws (yld C.P C.E s op') (fun r => K (s.put dst r))) → run1 C ⟨dst, op', ty, pos, after, guard⟩ s K →
      ∃ s', (∀ K' : St → Prop, K' s' → run1 C ⟨dst, op', ty, pos, after, guard⟩ s K') ∧ K s' := fun op' e h => by
    rw [e] at h
    obtain ⟨r, h1, h2⟩ := ws_spec h
    exact ⟨_, fun K' hK => by rw [e]; simp only [h1, ws]; exact hK, h2⟩
  cases op with
  | makeSlice t l c =>
    simp only [run1] at h
    obtain ⟨d, hd, h⟩ := ws_spec h
    change dst = some d at hd
    subst hd
    split at h
    · rename_i e1 e2 e3
      obtain ⟨g1, g2, g3, g4, g5, g6, g7⟩ := h
      refine ⟨_, fun K' hK => ?_, g7⟩
      simp only [run1, ws, e1, e2, e3]
      exact ⟨g1, g2, g3, g4, g5, g6, hK⟩
    · exact h.elim
  | call c =>
    obtain ⟨callee, args, argTypes⟩ := c
    cases callee with
    | value f =>
      simp only [run1] at h
      split at h
      · rename_i g fst cap hf
        obtain ⟨rfl, rfl, h⟩ := h
        split at h
        · rename_i hg
          obtain ⟨s', hp, h⟩ := h
          exact ⟨s', fun K' hK => by simp only [run1, hf, hg, if_true]; exact ⟨trivial, trivial, s', hp, hK⟩, h⟩
        · rename_i hg
          obtain ⟨ds, hds, r, hc, h⟩ := ws_spec h
          cases r with
          | data x => exact ⟨_, fun K' hK => by simp only [run1, hf, if_neg hg, hds, ws]; exact ⟨trivial, trivial, _, hc, hK⟩, h⟩
          | own e size nn cells =>
            simp only [resT] at h
            obtain ⟨d, hd, hk, h9⟩ := ws_spec h
            change dst = some d at hd
            subst hd
            exact ⟨_, fun K' hK => by simp only [run1, hf, if_neg hg, hds, ws]; exact ⟨trivial, trivial, _, hc, hk, hK⟩, h9⟩
      · exact h.elim
    | invoke _ _ => exact last _ (fun _ => rfl) h
    | builtin b =>
      cases b with
      | append =>
        simp only [run1] at h
        obtain ⟨d, hd, h⟩ := ws_spec h
        change dst = some d at hd
        subst hd
        split at h
        · rename_i x y t t' e1 e2
          obtain ⟨rfl, h⟩ := h
          unfold appT at h
          obtain ⟨⟨e, size, bytes, zs⟩, g1, h⟩ := ws_spec h
          simp only at h
          obtain ⟨cs, g2, h⟩ := ws_spec h
          split at h
          · rename_i hx
            obtain ⟨k1, k2, k3, k4⟩ := h
            refine ⟨_, fun K' hK => ?_, k4⟩
            simp only [run1, ws, e1, e2, appT, g1, g2, hx]
            exact ⟨trivial, k1, k2, k3, hK⟩
          · rename_i k hx
            split at h
            · rename_i e' size' nn cells hk
              obtain ⟨k1, k2, k3, k4, k5, k6⟩ := h
              refine ⟨_, fun K' hK => ?_, k6⟩
              simp only [run1, ws, e1, e2, appT, g1, g2, hx, hk]
              exact ⟨trivial, k1, k2, k3, k4, k5, hK⟩
            · exact h.elim
          · exact h.elim
        · exact h.elim
      | len => simp [kindOf] at ho
      | min => simp [kindOf] at ho
      | max => simp [kindOf] at ho
      | _ => exact last _ (fun _ => rfl) h
  | binOp op t x y t' =>
    by_cases hb : isErrCmp y t = true
    · simp only [run1, hb, if_true] at h
      obtain ⟨hf, c, hc, h⟩ := h
      rcases h with ⟨e, h⟩ | ⟨e, h⟩
      · exact ⟨_, fun K' hK => by simp only [run1, hb, if_true]; exact ⟨hf, c, hc, .inl ⟨e, hK⟩⟩, h⟩
      · exact ⟨_, fun K' hK => by simp only [run1, hb, if_true]; exact ⟨hf, c, hc, .inr ⟨e, hK⟩⟩, h⟩
    · exact last _ (fun _ => by simp only [run1, if_neg hb]) h
  | alloc _ => simp [kindOf] at ho
  | box _ _ => simp [kindOf] at ho
  | buildSlice _ _ _ => simp [kindOf] at ho
  | store _ _ _ => simp [kindOf] at ho
  | _ => exact last _ (fun _ => rfl) h

theorem step_bar {o : Oper} {K : St → Prop} (ho : kindOf o.op = .bar) (h : step C ops o s K) : ∃ s', (∀ K' : St → Prop, K' s' → step C ops o s K') ∧ K s' := by
  unfold step at h
  split at h
  · rename_i hg
    obtain ⟨s', h1, h2⟩ := run1_bar ho h
    exact ⟨s', fun K' hK => by unfold step; simp only [hg]; exact h1 K' hK, h2⟩
  · rename_i j b hg
    split at h
    · rename_i d hd
      split at h
      · rename_i hc
        obtain ⟨s', h1, h2⟩ := run1_bar ho h
        exact ⟨s', fun K' hK => by unfold step; simp only [hg, hd, hc]; exact h1 K' hK, h2⟩
      · rename_i hc
        exact ⟨_, fun K' hK => by unfold step; simp only [hg, hd, hc]; exact hK, h⟩
      · exact h.elim
    · exact h.elim

/-- What an operation makes of a state. -/
inductive Acts (C : Ctx) (ops : Array Oper) (o : Oper) (s : St) : St → Prop where
  | does {ac : Ac} (hk : kindOf o.op ≠ .bar) (h : Does C ops o s ac) : Acts C ops o s (ac.app s)
  | bar {s' : St} (hk : kindOf o.op = .bar) (h : step C ops o s (fun t => t = s')) : Acts C ops o s s'
theorem acts_of {o : Oper} {K : St → Prop} (h : step C ops o s K) : ∃ s', Acts C ops o s s' ∧ K s' := by
  by_cases hk : kindOf o.op = .bar
  · obtain ⟨s', h1, h2⟩ := step_bar hk h; exact ⟨s', .bar hk (h1 _ rfl), h2⟩
  · obtain ⟨ac, h1, h2⟩ := does_of hk h; exact ⟨_, .does hk h1, h2⟩
theorem Acts.step {o : Oper} {s' : St} (h : Acts C ops o s s') : step C ops o s (fun t => t = s') := by
  cases h with
  | does hk h => exact of_does hk h rfl
  | bar hk h => exact h

/-- The operations of these numbers, one behind the other. -/
inductive Runs (C : Ctx) (ops : Array Oper) : List Nat → St → St → Prop where
  | nil (s : St) : Runs C ops [] s s
  | cons {i : Nat} {o : Oper} {l : List Nat} {s s' t : St} (hi : ops[i]? = some o) (hd : Acts C ops o s s') (hr : Runs C ops l s' t) : Runs C ops (i :: l) s t

theorem runs_of_steps {K : St → Prop} : ∀ (l : List Oper) (k : Nat) {s : St}, (∀ j, l[j]? = ops[k + j]?) → steps C ops l s K → ∃ t, Runs C ops (List.range' k l.length) s t ∧ K t
  | [], k, s, _, h => ⟨s, .nil s, h⟩
  | o :: l, k, s, hl, h => by
    obtain ⟨s', h1, h2⟩ := acts_of h
    obtain ⟨t, h3, h4⟩ := runs_of_steps l (k + 1) (fun j => by have := hl (j + 1); simpa [Nat.add_assoc, Nat.add_comm 1 j] using this) h2
    refine ⟨t, ?_, h4⟩
    rw [List.length_cons, List.range'_succ]
    exact .cons (by simpa using (hl 0).symm) h1 h3

theorem swapOk_bar {D : List (Nat × Nat)} {x y : Oper} (h : swapOkD D ops x y = true) : kindOf x.op ≠ .bar ∧ kindOf y.op ≠ .bar := by
  simp only [swapOkD, Bool.or_eq_true] at h
  rcases h with h | h
  · simp only [swapOk, Bool.and_eq_true, bne_iff_ne] at h
    exact ⟨h.1.1.1.2, h.1.1.2⟩
  · simp only [ldst, Bool.and_eq_true] at h
    have hm := h.2
    split at hm
    · rename_i h1 h2
      rw [h1, h2]; simp [kindOf]
    · cases hm
/-- The slots are not written. -/
def dstOff (D : List (Nat × Nat)) (o : Oper) : Bool := D.all fun pq => o.dst != some pq.1 && o.dst != some pq.2
def Dok (D : List (Nat × Nat)) (ops : Array Oper) : Bool := D.isEmpty || ops.toList.all fun o => dstOff D o && kindOf o.op != .bar
theorem Dok.spec {D : List (Nat × Nat)} (h : Dok D ops = true) {i : Nat} {o : Oper} (hi : ops[i]? = some o) : D = [] ∨ (dstOff D o = true ∧ kindOf o.op ≠ .bar) := by
  simp only [Dok, Bool.or_eq_true, List.isEmpty_iff, List.all_eq_true, Bool.and_eq_true, bne_iff_ne] at h
  rcases h with h | h
  · exact .inl h
  · exact .inr (h o (List.mem_of_getElem? (by rw [Array.getElem?_toList]; exact hi)))
theorem Ap.acts {D : List (Nat × Nat)} {o : Oper} {s s' : St} (A : Ap D s) (W : WF s) (h : D = [] ∨ (dstOff D o = true ∧ kindOf o.op ≠ .bar)) (hA : Acts C ops o s s') : Ap D s' := by
  rcases h with rfl | ⟨h1, h2⟩
  · intro pq hpq; cases hpq
  · cases hA with
    | bar hk _ => exact absurd hk h2
    | does _ hd =>
      obtain ⟨sx, _⟩ := does_shape W hd
      intro pq hpq
      obtain ⟨k, j, b1, b2, b3⟩ := A pq hpq
      simp only [dstOff, List.all_eq_true, Bool.and_eq_true, bne_iff_ne] at h1
      obtain ⟨g1, g2⟩ := h1 pq hpq
      exact ⟨k, j, by rw [app_t sx g1]; exact b1, by rw [app_t sx g2]; exact b2, b3⟩

/-- One operation is brought to the head. -/
theorem Runs.front {D : List (Nat × Nat)} (hD : Dok D ops = true) {i : Nat} {y : Oper} (hi : ops[i]? = some y) : ∀ {l1 l2 : List Nat} {s t : St}, WF s → Ap D s → (∀ j ∈ l1, ∃ x, ops[j]? = some x ∧ swapOkD D ops x y = true) → Runs C ops (l1 ++ i :: l2) s t →
    ∃ s', Acts C ops y s s' ∧ Runs C ops (l1 ++ l2) s' t
  | [], l2, s, t, _, _, _, h => by
    cases h with
    | cons h1 h2 h3 => rw [hi] at h1; cases h1; exact ⟨_, h2, h3⟩
  | j :: l1, l2, s, t, W, A, hj, h => by
    cases h with
    | cons h1 h2 h3 =>
      obtain ⟨x, hx, hsw⟩ := hj j (by simp)
      rw [hx] at h1; cases h1
      cases h2 with
      | bar hk _ => exact absurd hk (swapOk_bar hsw).1
      | does hb h2 =>
        obtain ⟨_, W'⟩ := does_shape W h2
        obtain ⟨s', g1, g2⟩ := Runs.front hD hi W' (A.acts W (Dok.spec hD hx) (.does hb h2)) (fun j' hj' => hj j' (by simp [hj'])) h3
        cases g1 with
        | bar hk _ => exact absurd hk (swapOk_bar hsw).2
        | does hk g1 =>
          obtain ⟨k1, k2, k3⟩ := swapD W A hsw h2 g1
          refine ⟨_, .does hk k1, ?_⟩
          exact .cons hx (.does (swapOk_bar hsw).1 k2) (by rw [k3]; exact g2)

theorem getD_set (l : Array Bool) (i j : Nat) (hi : i < l.size) : (l.setIfInBounds i true).getD j true = if j = i then true else l.getD j true := by
  simp only [Array.getD_eq_getD_getElem?, Array.getElem?_setIfInBounds]
  by_cases h : i = j
  · subst h; simp [hi]
  · have h' : ¬ j = i := fun e => h e.symm
    simp [h, h']
theorem getD_set' (l : Array Bool) (i j : Nat) (hi : i < l.size) : (l.setIfInBounds i true).getD j false = if j = i then true else l.getD j false := by
  simp only [Array.getD_eq_getD_getElem?, Array.getElem?_setIfInBounds]
  by_cases h : i = j
  · subst h; simp [hi]
  · have h' : ¬ j = i := fun e => h e.symm
    simp [h, h']

theorem any_of_runs {D : List (Nat × Nat)} (hD : Dok D ops = true) (hok : orderOkD D ops = true) (hd : dstsOk C.n ops.toList = true) : ∀ (fuel : Nat) (listed : Array Bool) (l : List Nat) (s : St) (t : St) (σ : Mem) (G : Gh) (a : Act) (w : World),
    listed.size = ops.size → l.length ≤ fuel → l.Pairwise (· < ·) → (∀ j, j ∈ l ↔ j < ops.size ∧ listed.getD j true = false) → Closed ops listed → Stands C σ G s a w → Ap D s → Runs C ops l s t → Q .normal t →
    wpAny C.P .any ops (Lift C Q) fuel listed a w := by
  intro fuel
  induction fuel with
  | zero =>
    intro listed l s t σ G a w hsz hf _ hl hcl S A hr hq
    have : l = [] := List.eq_nil_of_length_eq_zero (by omega)
    subst this
    cases hr
    refine ⟨?_, σ, G, s, hq, S⟩
    cases h : Region.ready .any ops listed with
    | nil => rfl
    | cons j r =>
      have hj : j ∈ Region.ready .any ops listed := by rw [h]; simp
      obtain ⟨h1, o, h2, _⟩ := mem_ready.1 hj
      exact absurd ((hl j).2 ⟨(Array.getElem?_eq_some_iff.1 h2).1, h1⟩) (by simp)
  | succ fuel ih =>
    intro listed l s t σ G a w hsz hf hp hl hcl S A hr hq
    refine ⟨fun hready => ?_, fun i hi => ?_⟩
    · cases l with
      | nil => cases hr; exact ⟨σ, G, s, hq, S⟩
      | cons j l =>
        exfalso
        obtain ⟨hjlt, hjun⟩ := (hl j).1 (by simp)
        have hoj : ops[j]? = some ops[j] := Array.getElem?_eq_getElem hjlt
        obtain ⟨h2, _⟩ := orderOk_spec hok hoj
        have : j ∈ Region.ready .any ops listed := mem_ready.2 ⟨hjun, _, hoj, fun e he hb => by
          have hlt := h2 e he hb
          have hnl : e.on ∉ j :: l := fun hm => by
            rcases List.mem_cons.1 hm with h | h
            · omega
            · have := (List.pairwise_cons.1 hp).1 _ h; omega
          have hn := mt (hl e.on).2 hnl
          have hlt' : e.on < listed.size := by rw [hsz]; omega
          cases hv : listed[e.on]? with
          | none => simp at hv; omega
          | some b =>
            cases b with
            | true => simp [Array.getD_eq_getD_getElem?, hv]
            | false => exact absurd ⟨by omega, by simp [Array.getD_eq_getD_getElem?, hv]⟩ hn⟩
        rw [hready] at this; simp at this
    · obtain ⟨hiun, y, hy, hdeps⟩ := mem_ready.1 hi
      have hilt : i < ops.size := (Array.getElem?_eq_some_iff.1 hy).1
      have hil : i ∈ l := (hl i).2 ⟨hilt, hiun⟩
      obtain ⟨l1, l2, rfl⟩ := List.append_of_mem hil
      obtain ⟨hback, hsw⟩ := orderOk_spec hok hy
      have hp' := List.pairwise_append.1 hp
      have hl1 : ∀ j ∈ l1, ∃ x, ops[j]? = some x ∧ swapOkD D ops x y = true := fun j hj => by
        obtain ⟨hjlt, hjun⟩ := (hl j).1 (by simp [hj])
        have hoj : ops[j]? = some ops[j] := Array.getElem?_eq_getElem hjlt
        have hji : j < i := hp'.2.2 j hj i (by simp)
        rcases hsw j _ hji hoj with hpath | h
        · have hnow : ∀ e ∈ y.after, Region.binds .any e = true → listed.getD e.on false = true := fun e he hb => hdeps e he hb
          have h1 := hcl.path hpath (fun y' hy' => by rw [hy] at hy'; cases hy'; exact hnow)
          have hjs : j < listed.size := by rw [hsz]; exact hjlt
          simp only [Array.getD_eq_getD_getElem?, Array.getElem?_eq_getElem hjs, Option.getD_some] at h1 hjun
          rw [h1] at hjun; cases hjun
        · exact ⟨_, hoj, h⟩
      obtain ⟨s1, hdo, hruns⟩ := Runs.front hD hy S.wf A hl1 hr
      have A1 : Ap D s1 := A.acts S.wf (Dok.spec hD hy) hdo
      have hstep := hdo.step
      have hdst : ∀ d, y.dst = some d → d < C.n := fun d hd' => by
        have := List.all_eq_true.1 hd y (by rw [← Array.getElem?_toList] at hy; exact List.mem_of_getElem? hy)
        rw [hd'] at this; simpa using this
      have hnd : (l1 ++ i :: l2).Nodup := hp.imp (fun h => Nat.ne_of_lt h)
      have hnext := step_wp S hstep hdst (next := wpAny C.P .any ops (Lift C Q) fuel (listed.setIfInBounds i true)) (Lift C Q) (fun s' σ' G' a' w' h' S' => by
        subst h'
        refine ih _ (l1 ++ l2) _ t σ' G' a' w' (by simpa using hsz) (by simp at hf ⊢; omega) ?_ (fun j => ?_) ?_ S' A1 hruns hq
        · exact hp.sublist (by simp)
        · rw [getD_set _ _ _ (by rw [hsz]; exact hilt)]
          have hlj := hl j
          simp only [List.mem_append, List.mem_cons] at hlj ⊢
          have hni : i ∉ l1 ∧ i ∉ l2 := by
            rw [List.nodup_append] at hnd
            refine ⟨fun h => hnd.2.2 i h i (by simp) rfl, (List.nodup_cons.1 hnd.2.1).1⟩
          constructor
          · intro h
            have hne : j ≠ i := fun e => by subst e; rcases h with h | h; exact hni.1 h; exact hni.2 h
            rw [if_neg hne]
            exact hlj.1 (by rcases h with h | h; exact .inl h; exact .inr (.inr h))
          · rintro ⟨h1, h2⟩
            split at h2
            · cases h2
            · rename_i hne
              rcases hlj.2 ⟨h1, h2⟩ with h | h | h
              · exact .inl h
              · exact absurd h hne
              · exact .inr h
        · intro i' y' hy' hl' e he hb
          rw [getD_set' _ _ _ (by rw [hsz]; exact hilt)] at hl' ⊢
          split at hl'
          · rename_i hii; subst hii
            rw [hy] at hy'; cases hy'
            split
            · rfl
            · exact hdeps e he hb
          · split
            · rfl
            · exact hcl i' y' hy' hl' e he hb)
      unfold wpOp
      simp only [hy]
      split
      · rename_i hw; rw [if_pos hw] at hnext; exact .inl hnext
      · rename_i hw; rw [if_neg hw] at hnext; exact hnext

/-- A REGION THAT DRAWS ITS ORDER is gone through in the text's order. -/
theorem dwp_drawn {D : List (Nat × Nat)} (hD : Dok D ops = true) {id : Nat} (hm : C.P.follows .mixedOrders = true) (hok : orderOkD D ops = true) (hd : dstsOk C.n ops.toList = true) (A : Ap D s) (h : steps C ops ops.toList s (Q .normal)) : DWp C (.region id ops true) Q s := fun σ G a w S => by
  obtain ⟨t, h1, h2⟩ := runs_of_steps (C := C) (ops := ops) ops.toList 0 (by simp) h
  rw [Array.length_toList, ← List.range_eq_range'] at h1
  refine wp_region_any hm ?_
  refine any_of_runs hD hok hd ops.size _ (List.range ops.size) s t σ G a _ (by simp) (by simp) List.pairwise_lt_range (fun j => ?_) (fun i y _ hl => ?_) S.drew A h1 h2
  · simp only [List.mem_range, Array.getD_eq_getD_getElem?]
    constructor
    · intro h; exact ⟨h, by simp [h]⟩
    · intro h; exact h.1
  · exfalso
    simp only [Array.getD_eq_getD_getElem?, Array.getElem?_replicate] at hl
    split at hl <;> simp at hl
theorem drawn_intro {id : Nat} {l : List Oper} {x : Hd (DWp C (.region id l.toArray true) Q s)} (hm : C.P.follows .mixedOrders = true) (hok : orderOk l.toArray = true) (hd : dstsOk C.n l = true) (h : commL s (callArgs [] l) fun s => ST C l.toArray l s (Q .normal)) : Stop (DWp C (.region id l.toArray true) Q s) x := fun σ G a w S => by
  obtain ⟨σ', s', S', h'⟩ := commL_sound _ S h
  exact dwp_drawn (D := []) rfl hm hok (by simpa using hd) (fun _ hp => by cases hp) (by simpa using h'.ok) σ' G a w S'
/-- .. where loads and stores go through slots that point to blocks apart. -/
theorem drawn_introD (D : List (Nat × Nat)) {id : Nat} {l : List Oper} {x : Hd (DWp C (.region id l.toArray true) Q s)} (hD : Dok D l.toArray = true) (hm : C.P.follows .mixedOrders = true) (hok : orderOkD D l.toArray = true) (hd : dstsOk C.n l = true) (A : Ap D s) (h : ST C l.toArray l s (Q .normal)) : Stop (DWp C (.region id l.toArray true) Q s) x := fun σ G a w S =>
  dwp_drawn hD hm hok (by simpa using hd) A (by simpa using h.ok) σ G a w S
end
end Go.Enc
