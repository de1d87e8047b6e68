/-
  The law Applies: for every script it answers true. Its card, tied to the program's text. No condition.
-/
import Derived.Test.YtjlibljfpkmpfaaGreatDoorUp
import Derived.Test.YtjlibljfpkmpfaaGreatDoorTc
import Derived.Test.YtjlibljfpkmpfaaGreatDoorRd
import Derived.Test.YtjlibljfpkmpfaaGreatDoorTab
import Derived.Test.YtjlibljfpkmpfaaGreatDoorCards
import Derived.Test.YtjlibljfpkmpfaaGreatDoorTie
import Derived.WalkKit
import Derived.ProofKit
import Derived.OpenShut
import Derived.Carry
import Derived.Deep.DeepHandedRow
namespace Go.Proofs.YtjlibljfpkmpfaaGreatDoor.applies
open Go.ChangeShapes Go.WideShapes Go.ChangeAt Go.RowKit Go.Enc

def tabE (u : Value) (g : Nat) : Option Value := if g = tabG then some u else none
theorem own : ownKnob Tryz.prog.godebug = none := by kernel_rfl
set_option maxRecDepth 100000 in
theorem law {E : Nat → Option Value} {q : Nat → Addr} (hq : Sent E q) {u : Value} (hE : E 9 = some u) {ops : List OpD} (hw : ∀ o ∈ ops, o.Wf) (hl : ops.length ≤ maxLen) : DCall Tryz.prog E 5 [scD ops] (.data (bD true)) := by
  refine dcall_of Tryz.func5 rfl (by kernel_rfl) Tryz.ntmps5 (by kernel_rfl) (by simp) (rs := [.tmp 2]) rfl ?_
  rintro ⟨P, E, σ0, w0, base, n, kb⟩ rfl rfl rfl rfl
  simp -implicitDefEqProofs only [go_sem, Int.reduceEq, ↓reduceIte, Nat.reduceEqDiff, Nat.reduceAdd, Nat.reduceMul, Nat.reduceSub, Nat.reduceDiv, Nat.reduceLeDiff, Nat.reduceLT, Nat.reduceBEq, Nat.reduceBNe, reduceCtorEq, Int.reduceLE, Int.reduceLT, Int.reduceToNat, decide_true, decide_false]
  have hE : E 9 = some u := hE
  refine Call.intro (upto_c hl fun o ho h1 h2 => plays_apply hq hE (hw o ho) (by omega)) ?_
  simp -implicitDefEqProofs only [go_sem, Int.reduceEq, ↓reduceIte, Nat.reduceEqDiff, Nat.reduceAdd, Nat.reduceMul, Nat.reduceSub, Nat.reduceDiv, Nat.reduceLeDiff, Nat.reduceLT, Nat.reduceBEq, Nat.reduceBNe, reduceCtorEq, Int.reduceLE, Int.reduceLT, Int.reduceToNat, decide_true, decide_false, beq_self_eq_true, finK]

theorem reads (os : Os) {H : Type} (enc : TypeId × Value → H) : ∃ places, DataW.whole enc Tryz.prog ((tabWorld os).forCall (fun _ _ => 0) ⟨#[], #[], []⟩).memory Tryz.f5.params.toList Rows.appliesSpec.vars false (#[.slice none 0 0] : Array Value).toList 8 = some ([.nil], [], places) :=
  ⟨[], by kernel_rfl⟩
theorem laidOut : laidOutB Tryz.prog = true := by kernel_rfl

set_option maxRecDepth 100000 in
theorem contract (H : Type) (enc : TypeId × Value → H) (W : World) (base : Nat) (args : Array Value) (ds gs : List (DataW H)) (before : List MemPlace)
    (hval : ∀ (j : Nat) t v, Tryz.f5.params[j]? = some t → args[j]? = some v → Value.okWide Tryz.prog W .any base t v)
    (hW : DataW.Whole enc Tryz.prog Tryz.f5.params.toList Rows.appliesSpec.vars false W args.toList ds gs before) (hL : laidMetH Tryz.prog Rows.appliesRow.laid W) :
    Calls Tryz.prog 5 args W fun e W' => ∃ v, e = .returned v ∧ Rows.appliesSpec.post enc Tryz.prog Tryz.f5 false true false false W args v W' := by
  have hW' := hW
  have hLL := hL
  obtain ⟨p, q, hA0, hV, rfl, hfz, hnd⟩ := hW
  have hA : DataW.TrodAll enc Tryz.prog W 0 (fun _ => true) true Tryz.f5.params.toList args.toList ds p := hA0
  rw [Tryz.params5] at hA hval
  obtain ⟨v0, d0, rfl, rfl, h0⟩ := trodAll_one hA
  obtain ⟨rfl, rfl⟩ := trodVars_none hV
  obtain ⟨ops, ho, hl, hr⟩ := read_script (okWide_slice Tryz.underlying22 (hval 0 _ v0 rfl rfl)) h0
  obtain ⟨h2, h3⟩ : laidMet Tryz.prog nineLaid W ∧ handlesMet Tryz.prog [("errors.errorType", Rows.laid_errors_errorType), ("enclose/enclose.table", Rows.laid_enclose_enclose_table)] W := hL
  obtain ⟨q, hq, hinj⟩ := sent_of_laid h2
  have he := handle_cell (d := Rows.laid_errors_errorType) rfl rfl h3 (by simp)
  obtain ⟨u, hu1, hu2, hu3⟩ := table_reads hLL (show ("enclose/enclose.table", Rows.laid_enclose_enclose_table) ∈ Rows.appliesRow.laid from by simp [Rows.appliesRow]) (by rfl)
  have hF : Fits (glb q (tabE u)) (fun b o => W.cell? ⟨b, o, none⟩) W := fits_of hq (fun g v h => by
    unfold tabE at h
    split at h
    · rename_i e; cases h; subst e; exact ⟨hu1, hu2⟩
    · cases h) he (fun v h => by
    unfold tabE at h
    rw [if_pos rfl] at h
    cases h
    exact hu3)
  have hEu : glb q (tabE u) 9 = some u := by
    unfold glb
    rw [if_neg (by decide), if_neg (by decide)]
    unfold tabE
    exact if_pos rfl
  refine (calls_of_dcall Tryz.func5 rfl (by kernel_rfl) (law (sent_glb hinj) hEu ho hl) hF (us := [v0]) (by simp only [RepL]; exact ⟨_, _, rfl, hr, rfl⟩)).mono fun e W' ⟨u, he, hA⟩ => ?_
  obtain ⟨σ', _, _, _, _, hb, hr⟩ := hA
  simp only [RepRes, bD, Rep] at hr
  subst he hr
  have hlt : ∀ x ∈ p ++ [], x.block < W.heap.size := fun x hx => hW'.lt x hx
  exact ⟨_, rfl, post_of_below (pa := p) (pv := []) hW' (fun _ _ _ => trodAll_cons_mk (shut_bool Tryz.underlying4 _) trodAll_mk0)
    (fun sp hsp => trodAll_mk1 (WideElems.Trod_stays laidOut (by kernel_rfl) (of_decide_eq_true (by kernel_rfl)) h0 (fun x hx => hb.same (hlt x (by simp [hx]))) (fun x hx => hsp x (by simp [hx]))))
    (fun _ _ => rfl) rfl hb (ok_one (by kernel_rfl) rfl (okWide_bool_mk Tryz.underlying4 _))⟩

set_option maxRecDepth 100000 in
theorem lifted (os : Os) (started : os.Started) (H : Type) (enc : TypeId × Value → H) (F : Stop.Interp) :
    ReturnsInHanded {} Tryz.checked os 5 .any ((OpenSpec.ofChange Rows.appliesSpec).preRow enc Tryz.prog Tryz.f5 Rows.appliesRow.domain false Rows.appliesRow.laid) (((OpenSpec.ofChange Rows.appliesSpec).at F).post enc Tryz.prog Tryz.f5 false true false false) := by
  obtain ⟨places, hx⟩ := reads os enc
  refine returnsInHanded_of_row (C := Tryz.checked) (s := OpenSpec.ofChange Rows.appliesSpec) own started (by kernel_rfl) Tryz.func5
    (witness_row_at (enc := enc) (C := Tryz.checked) false (tabWorld os) #[.slice none 0 0] rfl (by kernel_rfl) (by kernel_rfl) (by kernel_rfl)
      (OpenSpec.preRow_of_cond 8 hx (by kernel_rfl) (fun k hk => by cases hk) (by kernel_rfl) (tab_met os))) ?_
  intro W base args ds gs before hval hW _ _ _ hL _ _
  exact contract H enc W base args ds gs before hval hW hL

theorem said : Rows.AppliesSaid :=
  OpenClaim.holds_of_cond 5 Tryz.f5 rfl rfl rfl rfl rfl rfl rfl ⟨rfl, rfl, rfl, rfl, rfl⟩ rfl rfl rfl rfl rfl (by kernel_rfl) Tryz.func5 (by kernel_rfl)
    (of_decide_eq_true (by kernel_rfl)) (by unfold Func.isWrapper; first | (rw [if_pos (by decide +kernel)]; kernel_rfl) | (rw [if_neg (by decide +kernel)]; exact ⟨rfl, rfl⟩))
    (fun os started H enc _ F => by rw [OpenClaim.pre_eq_preRow]; exact lifted os started H enc F)

theorem plain (f : FuncId) (fn : Func) (hf : Tryz.pinned.checked.prog.funcNamed "enclose/encloselaw.Applies" = some f) (hfn : Tryz.pinned.checked.prog.funcs[f]? = some fn) :
    true = Tryz.pinned.checked.prog.looks [] ∧ ∀ (j : Nat) t, fn.params[j]? = some t → Tryz.pinned.checked.prog.wantsStandIn t = false := by
  obtain rfl : f = 5 := Option.some.inj ((show Tryz.prog.funcNamed "enclose/encloselaw.Applies" = some 5 by kernel_rfl).symm.trans hf) |>.symm
  obtain rfl : fn = Tryz.f5 := (Option.some.inj (Tryz.func5.symm.trans hfn)).symm
  refine ⟨by kernel_rfl, fun j t ht => ?_⟩
  rw [Tryz.params5] at ht
  have : t = 22 := by
    cases j with
    | zero => simpa using ht.symm
    | succ j => simp at ht
  subst this
  exact (show Tryz.prog.wantsStandIn 22 = false by kernel_rfl)

/-- THE CARD. -/
theorem card : Rows.AppliesCardSaid :=
  Claim7.holds_tied_plain_at .later [] _ _ _ _ said (fun _ h => by cases h) (by kernel_rfl) (fun _ h => by cases h) applies_row_tie rfl ⟨rfl, rfl⟩ (by kernel_rfl) rfl plain (by kernel_rfl)
end Go.Proofs.YtjlibljfpkmpfaaGreatDoor.applies
