/-
  The law Solves: for every script it answers true. Its card, tied to the program's text. No condition.
-/
import Derived.Test.YtjlibljfpkmpfaaGreatDoorSv19
import Derived.Test.YtjlibljfpkmpfaaGreatDoorSv49
import Derived.Test.YtjlibljfpkmpfaaGreatDoorCards
import Derived.Test.YtjlibljfpkmpfaaGreatDoorTie
import Derived.WalkKit
import Derived.ProofKit
import Derived.OpenShut
import Derived.Carry
import Derived.Deep.DeepHandedRow
namespace Go.Proofs.YtjlibljfpkmpfaaGreatDoor.solves
open Go.ChangeShapes Go.WideShapes Go.ChangeAt Go.RowKit Go.Enc
theorem own : ownKnob Tryz.prog.godebug = none := by kernel_rfl
set_option maxRecDepth 100000 in
theorem law {E : Nat → Option Value} {q : Nat → Addr} (hq : Sent E q) {ops : List OpD} (hw : ∀ o ∈ ops, o.Wf ∧ o.p.length * 8 ≤ reachBytes) (hl : ops.length ≤ maxLen) : DCall Tryz.prog E 9 [scD ops] (.data (bD true)) := by
  refine dcall_of Tryz.func9 rfl (by kernel_rfl) Tryz.ntmps9 (by kernel_rfl) (by simp) (rs := [.tmp 2]) rfl ?_
  rintro ⟨P, E, σ0, w0, base, n, kb, df, G0⟩ rfl rfl rfl rfl
  simp -implicitDefEqProofs only [go_sem]
  refine Call.intro (upto_c hl fun o ho h1 h2 => plays_solve hq (hw o ho).1 (Nat.le_trans (hw o ho).2 (by decide)) (by omega)) ?_
  simp -implicitDefEqProofs only [go_sem, beq_self_eq_true, finK]
theorem reads (os : Os) {H : Type} (enc : TypeId × Value → H) : ∃ places, DataW.whole enc Tryz.prog ((tabWorld os).forCall (fun _ _ => 0) ⟨#[], #[], []⟩).memory Tryz.f9.params.toList Rows.solvesSpec.vars false (#[.slice none 0 0] : Array Value).toList 8 = some ([.nil], [], places) :=
  ⟨[], by kernel_rfl⟩
theorem laidOut : laidOutB Tryz.prog = true := by kernel_rfl
set_option maxRecDepth 100000 in
theorem contract (H : Type) (enc : TypeId × Value → H) (W : World) (base : Nat) (args : Array Value) (ds gs : List (DataW H)) (before : List MemPlace)
    (hval : ∀ (j : Nat) t v, Tryz.f9.params[j]? = some t → args[j]? = some v → Value.okWide Tryz.prog W .any base t v)
    (hW : DataW.Whole enc Tryz.prog Tryz.f9.params.toList Rows.solvesSpec.vars false W args.toList ds gs before) (hZ : (DataW.weightsEach Tryz.prog (Tryz.f9.params.toList ++ (OpenSpec.ofChange Rows.solvesSpec).bare.plain.varTypes Tryz.prog) (ds ++ gs)).all (· ≤ reachBytes) = true) (hL : laidMetH Tryz.prog Rows.solvesRow.laid W) :
    Calls Tryz.prog 9 args W fun e W' => ∃ v, e = .returned v ∧ Rows.solvesSpec.post enc Tryz.prog Tryz.f9 false true false false W args v W' := by
  have hW' := hW
  obtain ⟨p, q, hA0, hV, rfl, hfz, hnd⟩ := hW
  have hA : DataW.TrodAll enc Tryz.prog W 0 (fun _ => true) true Tryz.f9.params.toList args.toList ds p := hA0
  rw [Tryz.params9] at hA hval hZ
  obtain ⟨v0, d0, rfl, rfl, h0⟩ := trodAll_one hA
  obtain ⟨rfl, rfl⟩ := trodVars_none hV
  obtain ⟨ops, ho, hl, hr⟩ := read_script_d (okWide_slice Tryz.underlying22 (hval 0 _ v0 rfl rfl)) h0 (fun n hn => of_decide_eq_true (List.all_eq_true.1 hZ n (weightsEach_mem (i := 0) rfl rfl hn)))
  obtain ⟨h2, h3⟩ : laidMet Tryz.prog nineLaid W ∧ handlesMet Tryz.prog [("errors.errorType", Rows.laid_errors_errorType), ("enclose/enclose.table", Rows.laid_enclose_enclose_table)] W := hL
  obtain ⟨q, hq, hinj⟩ := sent_of_laid h2
  have he := handle_cell (d := Rows.laid_errors_errorType) rfl rfl h3 (by simp)
  have hF : Fits (glb q fun _ => none) (fun b o => W.cell? ⟨b, o, none⟩) W := fits_of hq (fun _ _ h => by cases h) he (fun _ h => by cases h)
  refine (calls_of_dcall Tryz.func9 rfl (by kernel_rfl) (law (sent_glb hinj) ho hl) hF (us := [v0]) (by simp only [RepL]; exact ⟨_, _, rfl, hr, rfl⟩)).mono fun e W' ⟨u, he, hA⟩ => ?_
  obtain ⟨σ', _, _, _, _, hb, hr⟩ := hA
  simp only [RepRes, bD, Rep] at hr
  subst he hr
  have hlt : ∀ x ∈ p ++ [], x.block < W.heap.size := fun x hx => hW'.lt x hx
  exact ⟨_, rfl, post_of_below (pa := p) (pv := []) hW' (fun _ _ _ => trodAll_cons_mk (shut_bool Tryz.underlying4 _) trodAll_mk0)
    (fun sp hsp => trodAll_mk1 (WideElems.Trod_stays laidOut (by kernel_rfl) (of_decide_eq_true (by kernel_rfl)) h0 (fun x hx => hb.same (hlt x (by simp [hx]))) (fun x hx => hsp x (by simp [hx]))))
    (fun _ _ => rfl) rfl hb (ok_one (by kernel_rfl) rfl (okWide_bool_mk Tryz.underlying4 _))⟩
set_option maxRecDepth 100000 in
theorem lifted (os : Os) (started : os.Started) (H : Type) (enc : TypeId × Value → H) (F : Stop.Interp) :
    ReturnsInHanded {} Tryz.checked os 9 .any ((OpenSpec.ofChange Rows.solvesSpec).preRow enc Tryz.prog Tryz.f9 Rows.solvesRow.domain false Rows.solvesRow.laid) (((OpenSpec.ofChange Rows.solvesSpec).at F).post enc Tryz.prog Tryz.f9 false true false false) := by
  obtain ⟨places, hx⟩ := reads os enc
  refine returnsInHanded_of_row (C := Tryz.checked) (s := OpenSpec.ofChange Rows.solvesSpec) own started (by kernel_rfl) Tryz.func9
    (witness_row_at (enc := enc) (C := Tryz.checked) false (tabWorld os) #[.slice none 0 0] rfl (by kernel_rfl) (by kernel_rfl) (by kernel_rfl)
      (OpenSpec.preRow_of_cond 8 hx (by kernel_rfl) (fun k hk => by cases hk) (by kernel_rfl) (tab_met os))) ?_
  intro W base args ds gs before hval hW _ _ hZ hL _ _
  exact contract H enc W base args ds gs before hval hW hZ hL
theorem said : Rows.SolvesSaid :=
  OpenClaim.holds_of_cond 9 Tryz.f9 rfl rfl rfl rfl rfl rfl rfl ⟨rfl, rfl, rfl, rfl, rfl⟩ rfl rfl rfl rfl rfl (by kernel_rfl) Tryz.func9 (by kernel_rfl)
    (of_decide_eq_true (by kernel_rfl)) (by unfold Func.isWrapper; first | (rw [if_pos (by decide +kernel)]; kernel_rfl) | (rw [if_neg (by decide +kernel)]; exact ⟨rfl, rfl⟩))
    (fun os started H enc _ F => by rw [OpenClaim.pre_eq_preRow]; exact lifted os started H enc F)
theorem plain (f : FuncId) (fn : Func) (hf : Tryz.pinned.checked.prog.funcNamed "enclose/encloselaw.Solves" = some f) (hfn : Tryz.pinned.checked.prog.funcs[f]? = some fn) :
    true = Tryz.pinned.checked.prog.looks [] ∧ ∀ (j : Nat) t, fn.params[j]? = some t → Tryz.pinned.checked.prog.wantsStandIn t = false := by
  obtain rfl : f = 9 := Option.some.inj ((show Tryz.prog.funcNamed "enclose/encloselaw.Solves" = some 9 by kernel_rfl).symm.trans hf) |>.symm
  obtain rfl : fn = Tryz.f9 := (Option.some.inj (Tryz.func9.symm.trans hfn)).symm
  refine ⟨by kernel_rfl, fun j t ht => ?_⟩
  rw [Tryz.params9] at ht
  have : t = 22 := by
    cases j with
    | zero => simpa using ht.symm
    | succ j => simp at ht
  subst this
  exact (show Tryz.prog.wantsStandIn 22 = false by kernel_rfl)
/-- THE CARD. -/
theorem card : Rows.SolvesCardSaid :=
  Claim7.holds_tied_plain_at .later [] _ _ _ _ said (fun _ h => by cases h) (by kernel_rfl) (fun _ h => by cases h) solves_row_tie rfl ⟨rfl, rfl⟩ (by kernel_rfl) rfl plain (by kernel_rfl)
end Go.Proofs.YtjlibljfpkmpfaaGreatDoor.solves
