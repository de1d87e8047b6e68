/-
  What an operation does hangs on little; two that are apart may be exchanged.
-/
import Derived.Test.YtjlibljfpkmpfaaDoorDraw
namespace Go.Enc
open Go.RowKit

section
variable {P : Program} {E : Nat → Option Value} {h h' : Nat → Option Obj}
theorem loadT_congr {t : TypeId} {x : T} (hk : ∀ k, x.ref = some k → h' k = h k) : loadT P E h' t x = loadT P E h t x := by
  cases x with
  | ptr k off => simp only [loadT, hk k rfl]
  | d x => unfold loadT; split <;> first | rfl | (simp_all; done)
  | _ => rfl
theorem indexT_congr {t : TypeId} {x y : T} (hk : ∀ k, x.ref = some k → h' k = h k) : indexT P h' t x y = indexT P h t x y := by
  cases x with
  | gs k =>
    have e := hk k rfl
    cases y with
    | d y => cases y with
      | v u => cases u <;> first | rfl | (simp only [indexT, e]; done)
      | _ => rfl
    | _ => rfl
  | d x => unfold indexT; split <;> first | rfl | (simp_all; done)
  | _ => rfl
theorem lenT_congr {t : TypeId} {x : T} (hk : ∀ k, x.ref = some k → h' k = h k) : lenT P h' t x = lenT P h t x := by
  cases x with
  | gs k =>
    have e := hk k rfl
    simp only [lenT, e]
  | d x => unfold lenT; split <;> first | rfl | (simp_all; done)
  | _ => rfl
theorem isNilT_congr {t : TypeId} {x : T} (hk : ∀ k, x.ref = some k → h' k = h k) : isNilT P h' t x = isNilT P h t x := by
  unfold isNilT
  split
  · rfl
  · cases x with
    | gs k => simp only [hk k rfl]
    | d x => split <;> first | rfl | (simp_all; done)
    | _ => rfl
  · rfl
  · rfl
end

section
variable {C : Ctx} {s s' : St} {ops : Array Oper} {o : Oper}

theorem yld_congr {P : Program} {E : Nat → Option Value} {op : Op} (he : ∀ x ∈ op.operands.toList, s'.ev x = s.ev x)
    (hh : kindOf op = .reads → ∀ k, (∃ x ∈ op.operands.toList, (s.ev x).ref = some k) → s'.h k = s.h k) : yld P E s' op = yld P E s op := by
  cases op with
  | move x => simp only [yld, he x (by simp [Op.operands])]
  | assign x => simp only [yld, he x (by simp [Op.operands])]
  | pick c x y => simp only [yld, he c (by simp [Op.operands]), he x (by simp [Op.operands]), he y (by simp [Op.operands])]
  | load t x =>
    simp only [yld, he x (by simp [Op.operands])]
    refine loadT_congr fun k hk => ?_
    cases x with
    | tmp i => exact hh rfl k ⟨.tmp i, by simp [Op.operands], hk⟩
    | _ => simp [St.ev, T.ref] at hk
  | fieldAddr t x f => simp only [yld, he x (by simp [Op.operands])]
  | indexAddr t x i =>
    simp only [yld, he x (by simp [Op.operands]), he i (by simp [Op.operands])]
    exact indexT_congr fun k hk => hh rfl k ⟨x, by simp [Op.operands], hk⟩
  | index t x i => simp only [yld, he x (by simp [Op.operands]), he i (by simp [Op.operands])]
  | slice t x lo hi mx =>
    have hlo : lo.map s'.ev = lo.map s.ev := by cases lo with | none => rfl | some y => simp only [Option.map_some, he y (by simp [Op.operands])]
    have hhi : hi.map s'.ev = hi.map s.ev := by cases hi with | none => rfl | some y => simp only [Option.map_some, he y (by simp [Op.operands])]
    have hmx : mx.map s'.ev = mx.map s.ev := by cases mx with | none => rfl | some y => simp only [Option.map_some, he y (by simp [Op.operands])]
    simp only [yld, he x (by simp [Op.operands]), hlo, hhi, hmx]
  | extract x i => simp only [yld, he x (by simp [Op.operands])]
  | binOp op t x y t' =>
    simp only [yld, he x (by simp [Op.operands]), he y (by simp [Op.operands])]
    cases hy : isNilOf y with
    | true =>
      simp only [Bool.true_and]
      rw [binT_nil2 hy, binT_nil2 hy, isNilT_congr (h' := s'.h) (h := s.h) fun k hk => hh (by simp [kindOf, hy, isErrCmp_nil hy]) k ⟨x, by simp [Op.operands], hk⟩]
    | false => simp only [Bool.false_and, Bool.false_eq_true, if_false]; rw [binT_bin2 hy, binT_bin2 hy]
  | unOp op t x => simp only [yld, he x (by simp [Op.operands])]
  | convert a b x => simp only [yld, he x (by simp [Op.operands])]
  | makeInterface t x => simp only [yld, he x (by simp [Op.operands])]
  | nilCheck x => simp only [yld, he x (by simp [Op.operands])]
  | build t parts =>
    simp only [yld]
    congr 1
    refine List.map_congr_left fun p hp => ?_
    rw [he p.2 (by simp only [Op.operands]; simp; exact ⟨p.1, by simpa using hp⟩)]
  | call c =>
    obtain ⟨callee, args, ts⟩ := c
    cases callee with
    | builtin b =>
      have hmap : args.toList.map s'.ev = args.toList.map s.ev := List.map_congr_left fun x hx => he x (by simp [Op.operands, Call.operands]; simpa using hx)
      cases b with
      | len =>
        simp only [yld]
        split
        · rename_i x t hx _
          have hm : x ∈ args.toList := by rw [hx]; simp
          rw [he x (by simp [Op.operands, Call.operands]; simpa using hm)]
          exact lenT_congr fun k hk => hh rfl k ⟨x, by simp [Op.operands, Call.operands]; simpa using hm, hk⟩
        · rfl
      | min => simp only [yld, hmap]
      | max => simp only [yld, hmap]
      | _ => rfl
    | _ => rfl
  | _ => rfl

theorem ref_d {x : D} {k : Nat} (h : (T.d x).ref = some k) : False := by simp [T.ref] at h

theorem yld_live {P : Program} {E : Nat → Option Value} {op : Op} (W : WF s) {r : T} (h : yld P E s op = some r) : ∀ k, r.ref = some k → s.h k ≠ none := by
  have ev : ∀ x k, (s.ev x).ref = some k → s.h k ≠ none := fun x k hk => by
    cases x with
    | tmp i => exact W.live i k hk
    | _ => simp [St.ev, T.ref] at hk
  intro k hk
  unfold yld at h
  split at h
  · cases h; exact ev _ k hk
  · cases h; exact ev _ k hk
  · split at h
    · rename_i t _
      cases h
      cases t
      · exact ev _ k hk
      · exact ev _ k hk
    · cases h
  · unfold loadT at h
    split at h
    · rename_i j off hx
      split at h
      · cases h
      · rename_i o ho
        split at h
        · exact W.deep j o ho r (List.mem_of_getElem? h) k hk
        · split at h
          · split at h
            · simp only [Option.map_eq_some_iff] at h; obtain ⟨_, _, rfl⟩ := h; exact (ref_d hk).elim
            · cases h
          · cases h
        · cases h
    · split at h
      · simp only [Option.map_eq_some_iff] at h; obtain ⟨_, _, rfl⟩ := h; exact (ref_d hk).elim
      · split at h
        · split at h
          · cases h; exact (ref_d hk).elim
          · cases h
        · cases h
      · cases h
    · split at h
      · simp only [Option.map_eq_some_iff] at h; obtain ⟨_, _, rfl⟩ := h; exact (ref_d hk).elim
      · cases h
    · cases h
  · rename_i t x f
    unfold fieldT at h
    split at h
    · rename_i j off hx
      simp only [Option.map_eq_some_iff] at h; obtain ⟨o, _, rfl⟩ := h
      exact ev x k (by rw [hx]; simpa [T.ref] using hk)
    · simp only [Option.map_eq_some_iff] at h; obtain ⟨o, _, rfl⟩ := h; exact (ref_d hk).elim
    · cases h
  · rename_i t x i
    unfold indexT at h
    split at h
    · split at h
      · split at h
        · cases h; exact (ref_d hk).elim
        · cases h
      · cases h
    · rename_i j _ _ hx _
      split at h
      · split at h
        · cases h
          exact ev x k (by rw [hx]; simpa [T.ref] using hk)
        · cases h
      · cases h
    · cases h
  · unfold arrIndexT at h
    split at h
    · split at h
      · split at h
        · simp only [Option.map_eq_some_iff] at h; obtain ⟨_, _, rfl⟩ := h; exact (ref_d hk).elim
        · cases h
      · cases h
    · cases h
  · unfold sliceT at h
    split at h
    · split at h
      · split at h
        · cases h; exact (ref_d hk).elim
        · cases h
      · cases h
    · cases h
  · unfold extractT at h
    split at h
    · simp only [Option.map_eq_some_iff] at h; obtain ⟨_, _, rfl⟩ := h; exact (ref_d hk).elim
    · cases h
  · split at h
    · cases h
    · rename_i y _ _
      cases hy : isNilOf y with
      | true =>
        rw [binT_nil2 hy] at h
        unfold nil2 at h
        split at h
        · split at h <;> first | (cases h; exact (ref_d hk).elim) | cases h
        · cases h
      | false =>
        rw [binT_bin2 hy] at h
        unfold bin2 at h
        split at h
        · split at h
          · simp only [Option.map_eq_some_iff] at h; obtain ⟨_, _, rfl⟩ := h; exact (ref_d hk).elim
          · split at h
            · simp only [Option.map_eq_some_iff] at h; obtain ⟨_, _, rfl⟩ := h; exact (ref_d hk).elim
            · cases h
        · split at h
          · cases h
          · split at h
            · simp only [Option.map_eq_some_iff] at h; obtain ⟨_, _, rfl⟩ := h; exact (ref_d hk).elim
            · cases h
        · unfold bin2.strT at h; split at h <;> first | (cases h; exact (ref_d hk).elim) | cases h
        · unfold bin2.boolT at h; split at h <;> first | (cases h; exact (ref_d hk).elim) | cases h
        · unfold bin2.aggT at h
          split at h
          · simp only [Option.map_eq_some_iff] at h; obtain ⟨_, _, rfl⟩ := h; exact (ref_d hk).elim
          · simp only [Option.map_eq_some_iff] at h; obtain ⟨_, _, rfl⟩ := h; exact (ref_d hk).elim
          · cases h
        · cases h
  · unfold unT at h
    split at h <;> (try (cases h; done)) <;> split at h <;> first | (cases h; exact (ref_d hk).elim) | cases h
  · unfold convT at h
    split at h
    · split at h <;> first | (cases h; exact (ref_d hk).elim) | cases h
    · split at h
      · simp only [Option.map_eq_some_iff] at h; obtain ⟨_, _, rfl⟩ := h; exact (ref_d hk).elim
      · split at h
        · cases h; exact (ref_d hk).elim
        · cases h
      · cases h
    · cases h
  · rename_i t x
    unfold mkIfaceT at h
    split at h
    · split at h
      · rename_i j hx
        cases h
        exact ev x k (by rw [hx]; simpa [T.ref] using hk)
      · cases h; exact (ref_d hk).elim
      · cases h
    · split at h
      · cases h; exact (ref_d hk).elim
      · cases h
    · cases h
  · rename_i x
    unfold nilCheckT at h
    split at h
    · rename_i j off hx
      cases h
      exact ev x k (by rw [hx]; exact hk)
    · cases h; exact (ref_d hk).elim
    · cases h; exact (ref_d hk).elim
    · cases h
  · unfold buildT at h
    split at h
    · split at h
      · simp only [Option.map_eq_some_iff] at h; obtain ⟨_, _, rfl⟩ := h; exact (ref_d hk).elim
      · cases h
    · cases h
  · split at h
    · unfold lenT at h
      split at h
      · split at h
        · split at h
          · cases h; exact (ref_d hk).elim
          · cases h
        · cases h
      · split at h
        · cases h; exact (ref_d hk).elim
        · cases h
      · split at h
        · split at h
          · cases h; exact (ref_d hk).elim
          · cases h
        · cases h
      · cases h
    · cases h
  · unfold minmaxT at h
    split at h
    · simp only [Option.map_eq_some_iff] at h; obtain ⟨_, _, rfl⟩ := h; exact (ref_d hk).elim
    · cases h
  · unfold minmaxT at h
    split at h
    · simp only [Option.map_eq_some_iff] at h; obtain ⟨_, _, rfl⟩ := h; exact (ref_d hk).elim
    · cases h
  · cases h
end
end Go.Enc
