/-
  Code as a transformer of states; loops; the contract of a function out of its body.
-/
import Derived.Test.YtjlibljfpkmpfaaDoorComm
import Derived.Deep.LoopGhost
namespace Go.Enc
open Go.RowKit

def Lift (C : Ctx) (Q : Exit → St → Prop) : Exit → Act → World → Prop
  | .panic _, _, _ => False
  | .outgrown, _, _ => False
  | e, a, w => ∃ σ G s, Q e s ∧ Stands C σ G s a w

def DWp (C : Ctx) (c : Code) (Q : Exit → St → Prop) (s : St) : Prop := ∀ σ G a w, Stands C σ G s a w → c.wp C.P (Lift C Q) a w

def Thn (next : St → Prop) (Q : Exit → St → Prop) : Exit → St → Prop
  | .normal, s => next s
  | e, s => Q e s
def InB (id : Nat) (Q : Exit → St → Prop) : Exit → St → Prop
  | .exit id', s => if id' = id then Q .normal s else Q (.exit id') s
  | e, s => Q e s
def condT (t : T) (p q : Prop) : Prop :=
  match t with
  | .d (.v (.bool b)) => (b = true → p) ∧ (b = false → q)
  | _ => False

/-- Two operations that no edge orders do not touch one another. -/
def heapReads : Op → Bool
  | .load _ (.global _) => false
  | .load .. | .indexAddr .. | .slice .. | .binOp .. => true
  | .call _ => true
  | _ => false
def dstsOk (n : Nat) (ops : List Oper) : Bool := ops.all fun o => match o.dst with | some d => d < n | none => true
def fitsC (n : Nat) : Code → Bool
  | .region _ ops _ => dstsOk n ops.toList
  | .seq a b => fitsC n a && fitsC n b
  | .cond _ a b => fitsC n a && fitsC n b
  | .block _ a => fitsC n a
  | .loop a => fitsC n a
  | .scope a => fitsC n a
  | _ => true

/-- A region that draws its order is shown by 'Drawn'. -/
def Drawn (C : Ctx) (id : Nat) (ops : Array Oper) (Q : Exit → St → Prop) (s : St) : Prop := DWp C (.region id ops true) Q s

def dcode (C : Ctx) : Code → (Exit → St → Prop) → St → Prop
  | .skip, Q, s => Q .normal s
  | .seq x y, Q, s => dcode C x (Thn (dcode C y Q) Q) s
  | .cond c x y, Q, s => condT (s.ev c) (dcode C x Q s) (dcode C y Q s)
  | .block id c, Q, s => dcode C c (InB id Q) s
  | .region id ops false, Q, s => commL s (callArgs [] ops.toList) fun s => steps C ops ops.toList s (Q .normal)
  | .region id ops true, Q, s => Drawn C id ops Q s
  | .ret, Q, s => Q .ret s
  | .exit id, Q, s => Q (.exit id) s
  | .label _, Q, s => Q .normal s
  | c, Q, s => DWp C c Q s

section
variable {C : Ctx} {σ : Mem} {G : Gh} {s : St} {a : Act} {w : World} {Q : Exit → St → Prop}

theorem Lift.mono {Q' : Exit → St → Prop} (h : ∀ e s, Q e s → Q' e s) (e : Exit) (a : Act) (w : World) : Lift C Q e a w → Lift C Q' e a w := by
  cases e <;> first | exact id | (rintro ⟨σ, G, s, h1, h2⟩; exact ⟨σ, G, s, h _ _ h1, h2⟩)

theorem step_wp {ops : Array Oper} {o : Oper} {K : St → Prop} (S : Stands C σ G s a w) (h : step C ops o s K) (hd : ∀ d, o.dst = some d → d < C.n) {next : Act → World → Prop} (Q : Exit → Act → World → Prop)
    (hk : ∀ s' σ' G' a' w', K s' → Stands C σ' G' s' a' w' → next a' w') :
    if Region.wanted o (yielded ops a.tmps) then o.wp C.P a w next Q else next (a.put o.dst undef) w := by
  unfold step at h
  split at h
  · rename_i hg
    rw [if_pos (by simp [Region.wanted, hg])]
    exact run1_sound S h hd Q hk
  · rename_i j b hg
    split at h
    · rename_i d hj
      have hs := S.slot d
      have hj' : ((ops[j]?).bind fun x => x.dst) = some d := hj
      have hget : ∀ v, a.tmps.getD d undef = v → v ≠ undef → a.tmps[d]? = some v := fun v h1 h2 => by
        rw [Array.getD_eq_getD_getElem?] at h1
        cases h3 : a.tmps[d]? with
        | none => rw [h3] at h1; exact absurd h1.symm h2
        | some u => rw [h3] at h1; simpa using h1
      split at h
      · rename_i hg2
        unfold gd at hg2
        split at hg2
        · rename_i c b' hc
          rw [hc] at hs
          simp only [RepT, Rep] at hs
          have h2 := hget _ hs (by simp [undef])
          simp only [Option.some.injEq, beq_iff_eq] at hg2
          subst hg2
          rw [if_pos (by simp [Region.wanted, hg, yielded, hj', h2])]
          exact run1_sound S h hd Q hk
        · simp at hg2
        · cases hg2
      · rename_i hg2
        have hnot : Region.wanted o (yielded ops a.tmps) = false := by
          unfold gd at hg2
          split at hg2
          · rename_i c b' hc
            rw [hc] at hs
            simp only [RepT, Rep] at hs
            have h2 := hget _ hs (by simp [undef])
            simp only [Option.some.injEq, beq_eq_false_iff_ne] at hg2
            simp [Region.wanted, hg, yielded, hj', h2, hg2]
          · rename_i vs b' hc
            rw [hc] at hs
            simp only [RepT, Rep] at hs
            rw [Array.getD_eq_getD_getElem?] at hs
            cases h3 : a.tmps[d]? with
            | none => simp [Region.wanted, hg, yielded, hj', h3]
            | some u =>
              rw [h3] at hs
              simp only [Option.getD_some] at hs
              subst hs
              simp [Region.wanted, hg, yielded, hj', h3]
          · cases hg2
        rw [hnot, if_neg (by simp)]
        exact hk _ σ G _ _ h (S.put (by simp [RepT, Rep]) (by simp [T.ref]) hd)
      · exact h.elim
    · exact h.elim

theorem steps_wp {ops : Array Oper} : ∀ (l : List Oper) {s : St} {a : Act} {w : World} {σ : Mem} {G : Gh} {K : St → Prop}, dstsOk C.n l = true → Stands C σ G s a w → steps C ops l s K → (∀ s, K s → Q .normal s) → wpList C.P ops (Lift C Q) l a w
  | [], s, a, w, σ, G, K, _, S, h, hq => ⟨σ, G, s, hq s h, S⟩
  | o :: l, s, a, w, σ, G, K, hd, S, h, hq => by
    simp only [dstsOk, List.all_cons, Bool.and_eq_true] at hd
    have hd' : ∀ d, o.dst = some d → d < C.n := fun d e => by have := hd.1; rw [e] at this; simpa using this
    have := step_wp S h hd' (next := wpList C.P ops (Lift C Q) l) (Lift C Q) (fun s' σ' G' a' w' h' S' => steps_wp l hd.2 S' h' hq)
    unfold wpList
    split
    · rename_i hw; rw [if_pos hw] at this; exact .inl this
    · rename_i hw; rw [if_neg hw] at this; exact this

theorem dwp_region {id : Nat} {ops : Array Oper} (hd : dstsOk C.n ops.toList = true) (h : steps C ops ops.toList s (Q .normal)) : DWp C (.region id ops false) Q s :=
  fun _ _ _ _ S => wp_region_list (steps_wp ops.toList hd S h fun _ h => h)

theorem dwp_seq {x y : Code} (h : DWp C x (Thn (DWp C y Q) Q) s) : DWp C (.seq x y) Q s := fun σ G a w S => by
  refine wp_seq (wp_mono (h σ G a w S) fun e a' w' h' => ?_)
  cases e with
  | normal => obtain ⟨σ', G', s', h1, S'⟩ := h'; exact h1 σ' G' a' w' S'
  | _ => exact h'

theorem dwp_mono {c : Code} {Q' : Exit → St → Prop} (h : DWp C c Q s) (hq : ∀ e s, Q e s → Q' e s) : DWp C c Q' s := fun σ G a w S => wp_mono (h σ G a w S) (Lift.mono hq)

theorem dcode_sound : ∀ (c : Code) {Q : Exit → St → Prop} {s : St}, fitsC C.n c = true → dcode C c Q s → DWp C c Q s
  | .skip, Q, s, _, h => fun σ G a w S => wp_skip ⟨σ, G, s, h, S⟩
  | .ret, Q, s, _, h => fun σ G a w S => wp_ret ⟨σ, G, s, h, S⟩
  | .exit id, Q, s, _, h => fun σ G a w S => wp_exit ⟨σ, G, s, h, S⟩
  | .label l, Q, s, _, h => fun σ G a w S => wp_label ⟨σ, G, s, h, S⟩
  | .seq x y, Q, s, hf, h => by
    simp only [fitsC, Bool.and_eq_true] at hf
    refine dwp_seq (dwp_mono (dcode_sound x hf.1 h) fun e s' h' => ?_)
    cases e with
    | normal => exact dcode_sound y hf.2 h'
    | _ => exact h'
  | .cond c x y, Q, s, hf, h => fun σ G a w S => by
    simp only [fitsC, Bool.and_eq_true] at hf
    simp only [dcode, condT] at h
    split at h
    · rename_i b hb
      have hc := S.ev c
      rw [hb] at hc
      simp only [RepT, Rep] at hc
      exact wp_cond_split hc (fun ht => dcode_sound x hf.1 (h.1 ht) σ G a w S) (fun ht => dcode_sound y hf.2 (h.2 ht) σ G a w S)
    · exact h.elim
  | .block id c, Q, s, hf, h => fun σ G a w S => by
    refine wp_block (wp_mono (dcode_sound c hf h σ G a w S) fun e a' w' h' => ?_)
    cases e with
    | exit id' =>
      obtain ⟨σ', G', s', h1, S'⟩ := h'
      simp only [InB] at h1
      simp only [Exit.inBlock]
      split
      · rename_i e; rw [if_pos e] at h1; exact ⟨σ', G', s', h1, S'⟩
      · rename_i e; rw [if_neg e] at h1; exact ⟨σ', G', s', h1, S'⟩
    | _ => exact h'
  | .region id ops false, Q, s, hf, h => fun σ G a w S => by
    obtain ⟨σ', s', S', h'⟩ := commL_sound _ S (by simpa only [dcode] using h)
    exact dwp_region hf h' σ' G a w S'
  | .region id ops true, Q, s, _, h => h
  | .loop _, _, _, _, h => h
  | .rangeFunc .., _, _, _, h => h
  | .scope _, _, _, _, h => h
  | .goto _, _, _, _, h => h
  | .refuse _, _, _, _, h => h

/-- Less is known: what a slot holds may be forgotten, a local block let go. -/
def TW (x y : T) : Prop := y = x ∨ y = .d .any ∨ (x = .d (.v (.slice none 0 0)) ∧ ∃ n, y = .d (.sl n []))
structure Weak (s s' : St) : Prop where
  t : ∀ i, TW (s.t i) (s'.t i)
  h : ∀ k o, s'.h k = some o → s.h k = some o
  live : ∀ i k, (s'.t i).ref = some k → s'.h k ≠ none
  deep : ∀ k o, s'.h k = some o → ∀ c ∈ o.cells, ∀ k', c.ref = some k' → s'.h k' ≠ none

theorem TW.rep {x y : T} (h : TW x y) {u : Value} (hr : RepT σ G x u) : RepT σ G y u := by
  rcases h with rfl | rfl | ⟨rfl, n, rfl⟩
  · exact hr
  · simp [RepT, Rep]
  · simp only [RepT, Rep] at hr ⊢; exact .inl ⟨hr, trivial⟩

theorem Stands.weak (S : Stands C σ G s a w) {s' : St} (h : Weak s s') : Stands C σ G s' a w :=
  { S with
    slot := fun i => (h.t i).rep (S.slot i)
    live := h.live
    obj := fun k o ho => S.obj k o (h.h k o ho)
    deep := h.deep
    sep := fun k k' o o' b h1 h2 => S.sep k k' o o' b (h.h k o h1) (h.h k' o' h2)
    own := fun k o b h1 => S.own k o b (h.h k o h1) }

theorem dwp_weak {c : Code} {s' : St} (h : Weak s s') (hd : DWp C c Q s') : DWp C c Q s := fun σ G a w S => hd σ G a w (S.weak h)

/-- A LOOP: a family of states, one of which stands at each round's head. -/
theorem dwp_loop_ {α : Type} {c : Code} (Sx : α → St) (μ : α → Nat) (x0 : α) (h0 : Weak s (Sx x0)) (hf : fitsC C.n c = true)
    (round : ∀ x, dcode C c (Thn (fun s' => ∃ x', Weak s' (Sx x') ∧ μ x' < μ x) Q) (Sx x)) : DWp C (.loop c) Q s := fun σ G a w S => by
  refine wp_loop_ghost (fun n a w => ∃ x σ G, μ x = n ∧ Stands C σ G (Sx x) a w) (μ x0) ⟨x0, σ, G, rfl, S.weak h0⟩ ?_
  rintro n a w ⟨x, σ, G, rfl, S⟩
  refine wp_mono (dcode_sound c hf (round x) σ G a w S) fun e a' w' h' => ?_
  cases e with
  | normal =>
    obtain ⟨σ', G', s', ⟨x', h1, h2⟩, S'⟩ := h'
    exact ⟨μ x', h2, x', σ', G', rfl, S'.weak h1⟩
  | _ => exact h'
end
end Go.Enc
