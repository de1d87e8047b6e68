/-
  The law All: for every script it answers true. Its card, tied to the program's text. No condition.
-/
import Derived.Test.YtjlibljfpkmpfaaGreatDoorSa15
import Derived.Test.YtjlibljfpkmpfaaGreatDoorSa31
import Derived.Test.YtjlibljfpkmpfaaGreatDoorSa48
import Derived.Test.YtjlibljfpkmpfaaGreatDoorSa49
import Derived.Test.YtjlibljfpkmpfaaGreatDoorSa25
import Derived.Test.YtjlibljfpkmpfaaGreatDoorSa26
import Derived.Test.YtjlibljfpkmpfaaGreatDoorSa30
import Derived.Test.YtjlibljfpkmpfaaGreatDoorCards
import Derived.Test.YtjlibljfpkmpfaaGreatDoorTie
import Derived.WalkKit
import Derived.ProofKit
import Derived.OpenShut
import Derived.Carry
import Derived.Deep.DeepHandedRow
set_option maxRecDepth 100000
set_option linter.unusedSimpArgs false
set_option linter.unusedVariables false
namespace Go.Proofs.YtjlibljfpkmpfaaGreatDoor.all
open Go.ChangeShapes Go.WideShapes Go.ChangeAt Go.RowKit Go.Enc
def tabE (u:Value)(g:Nat):Option Value:=if g=tabG then some u else none
theorem own:ownKnob Tryz.prog.godebug=none:=by kernel_rfl
theorem law {E:Nat->Option Value}{q:Nat->Addr}(hq:Sent E q){u:Value}(hE:E 9=some u){ops:List OpD}(hw:∀o∈ops,o.Wf/\o.p.length*8<=reachBytes)(hl:ops.length<=maxLen):DQz E 10 [scD ops] (.data (bD true)):=by
 refine dcA Tryz.func10 Tryz.ntmps10 (rs:=[.tmp 2]) fun _ _ _ _ _=>?_
 simp -implicitDefEqProofs only[go_sem];have hE:E 9=some u:=hE;refine cI (zhZ hl fun o ho h1 h2=>?_) ?_
 ·have w:=(hw o ho).1;have len:=Nat.le_trans (hw o ho).2 (show reachBytes<=140737488355328 by decide);rcases(show o.kind=1\/o.kind=2\/o.kind=3\/o.kind=4\/o.kind=5\/o.kind=6\/o.kind=7 by omega) with k|k|k|k|k|k|k
  ·exact Hy hq w k
  ·exact zcF hq w k
  ·exact Yc hq hE w k
  ·exact Yb hq w k
  ·exact Hz hq w len k
  ·exact VP hq w len k
  ·exact Ya hq w len k
 ·simp -implicitDefEqProofs only[go_sem,beq_self_eq_true,finK]
theorem reads (os:Os){H:Type}(enc:TypeId×Value->H):∃places,DataW.whole enc Tryz.prog ((KY os).forCall (fun _ _=>0) ⟨#[],#[],[]⟩).memory Tryz.f10.params.toList Rows.allSpec.vars false (#[.slice none 0 0]:Array Value).toList 8=some ([.nil],[],places):=
 ⟨[],by kernel_rfl⟩
theorem laidOut:laidOutB Tryz.prog=true:=by kernel_rfl
theorem contract (H:Type)(enc:TypeId×Value->H)(W:World)(base:Nat)(args:Array Value)(ds gs:List (DataW H))(before:List MemPlace)
  (hval:∀(j:Nat) t v,Tryz.f10.params[j]?=some t->args[j]?=some v->Value.okWide Tryz.prog W .any base t v)
  (hW:DataW.Whole enc Tryz.prog Tryz.f10.params.toList Rows.allSpec.vars false W args.toList ds gs before) (hZ:(DataW.weightsEach Tryz.prog (Tryz.f10.params.toList++(OpenSpec.ofChange Rows.allSpec).bare.plain.varTypes Tryz.prog) (ds++gs)).all (·<=reachBytes)=true) (hL:laidMetH Tryz.prog Rows.allRow.laid W) :
  Calls Tryz.prog 10 args W fun e W'=>∃v,e = .returned v/\Rows.allSpec.post enc Tryz.prog Tryz.f10 false true false false W args v W':=by
 have hW':=hW;have hLL:=hL;obtain⟨p,q,hA0,hV,rfl,hfz,hnd⟩:=hW;have hA:DataW.TrodAll enc Tryz.prog W 0 (fun _=>true) true Tryz.f10.params.toList args.toList ds p:=hA0;rw[Tryz.params10] at hA hval hZ;obtain⟨v0,d0,rfl,rfl,h0⟩:=trodAll_one hA;obtain⟨rfl,rfl⟩:=trodVars_none hV;obtain⟨ops,ho,hl,hr⟩:=Xj (okWide_slice Tryz.underlying22 (hval 0 _ v0 rfl rfl)) h0 (fun n hn=>of_decide_eq_true (List.all_eq_true.1 hZ n (xm (i:=0) rfl rfl hn)));obtain⟨h2,h3⟩:laidMet Tryz.prog Ym W/\handlesMet Tryz.prog [("errors.errorType",Rows.laid_errors_errorType),("enclose/enclose.table",Rows.laid_enclose_enclose_table)] W:=hL;obtain⟨q,hq,hinj⟩:=VB h2;have he:=YH (d:=Rows.laid_errors_errorType) rfl rfl h3 (by simp);obtain⟨u,hu1,hu2,hu3⟩:=ZK hLL (show("enclose/enclose.table",Rows.laid_enclose_enclose_table)∈Rows.allRow.laid from by simp[Rows.allRow]) (by rfl);have hF:Fits (glb q (tabE u)) (fun b o=>W.cell? ⟨b,o,none⟩) W:=zfv hq (fun g v h=>by
  unfold tabE at h;split at h
  ·rename_i e;cases h;subst e;exact⟨hu1,hu2⟩
  ·cases h) he (fun v h=>by
  unfold tabE at h;rw[if_pos rfl] at h;cases h;exact hu3)
 have hEu:glb q (tabE u) 9=some u:=by
  unfold glb;rw[if_neg (by decide),if_neg (by decide)];unfold tabE;exact if_pos rfl
 refine(Q4 Tryz.func10 rfl (by kernel_rfl) (law (zbb hinj) hEu ho hl) hF (us:=[v0]) (by simp only[RepL];exact⟨_,_,rfl,hr,rfl⟩)).mono fun e W' ⟨u,he,hA⟩=>?_
 obtain⟨σ',_,_,_,_,hb,hr⟩:=hA;simp only[zF,bD,Rep] at hr;subst he hr;have hlt:∀x∈p++[],x.block<W.heap.size:=fun x hx=>hW'.lt x hx
 exact⟨_,rfl,Xk (pa:=p) (pv:=[]) hW' (fun _ _ _=>trodAll_cons_mk (shut_bool Tryz.underlying4 _) trodAll_mk0)
  (fun sp hsp=>trodAll_mk1 (WideElems.Trod_stays laidOut (by kernel_rfl) (of_decide_eq_true (by kernel_rfl)) h0 (fun x hx=>hb.same (hlt x (by simp[hx]))) (fun x hx=>hsp x (by simp[hx]))))
  (fun _ _=>rfl) rfl hb (ok_one (by kernel_rfl) rfl (okWide_bool_mk Tryz.underlying4 _))⟩
theorem lifted (os:Os)(started:os.Started)(H:Type)(enc:TypeId×Value->H)(F:Stop.Interp) :
  ReturnsInHanded {} Tryz.checked os 10 .any ((OpenSpec.ofChange Rows.allSpec).preRow enc Tryz.prog Tryz.f10 Rows.allRow.domain false Rows.allRow.laid) (((OpenSpec.ofChange Rows.allSpec).at F).post enc Tryz.prog Tryz.f10 false true false false):=by
 obtain⟨places,hx⟩:=reads os enc;refine returnsInHanded_of_row (C:=Tryz.checked) (s:=OpenSpec.ofChange Rows.allSpec) own started (by kernel_rfl) Tryz.func10
  (witness_row_at (enc:=enc) (C:=Tryz.checked) false (KY os) #[.slice none 0 0] rfl (by kernel_rfl) (by kernel_rfl) (by kernel_rfl)
   (OpenSpec.preRow_of_cond 8 hx (by kernel_rfl) (fun k hk=>by cases hk) (by kernel_rfl) (zem os))) ?_
 intro W base args ds gs before hval hW _ _ hZ hL _ _;exact contract H enc W base args ds gs before hval hW hZ hL
theorem said:Rows.AllSaid:=
 OpenClaim.holds_of_cond 10 Tryz.f10 rfl rfl rfl rfl rfl rfl rfl ⟨rfl,rfl,rfl,rfl,rfl⟩ rfl rfl rfl rfl rfl (by kernel_rfl) Tryz.func10 (by kernel_rfl)
  (of_decide_eq_true (by kernel_rfl)) (by unfold Func.isWrapper;first|(rw[if_pos (by decide +kernel)];kernel_rfl)|(rw[if_neg (by decide +kernel)];exact⟨rfl,rfl⟩))
  (fun os started H enc _ F=>by rw[OpenClaim.pre_eq_preRow];exact lifted os started H enc F)
theorem plain (f:FuncId)(fn:Func)(hf:Tryz.pinned.checked.prog.funcNamed "enclose/encloselaw.All" = some f)(hfn:Tryz.pinned.checked.prog.funcs[f]?=some fn) :
  true=Tryz.pinned.checked.prog.looks []/\∀(j:Nat) t,fn.params[j]?=some t->Tryz.pinned.checked.prog.wantsStandIn t=false:=by
 obtain rfl:f=10:=Option.some.inj ((show Tryz.prog.funcNamed "enclose/encloselaw.All" = some 10 by kernel_rfl).symm.trans hf) |>.symm
 obtain rfl:fn=Tryz.f10:=(Option.some.inj (Tryz.func10.symm.trans hfn)).symm;refine⟨by kernel_rfl,fun j t ht=>?_⟩;rw[Tryz.params10] at ht;have:t=22:=by
  cases j with
  |zero=>simpa using ht.symm
  |succ j=>simp at ht
 subst this;exact(show Tryz.prog.wantsStandIn 22=false by kernel_rfl)
theorem card:Rows.AllCardSaid:=
 Claim7.holds_tied_plain_at .later [] _ _ _ _ said (fun _ h=>by cases h) (by kernel_rfl) (fun _ h=>by cases h) all_row_tie rfl ⟨rfl,rfl⟩ (by kernel_rfl) rfl plain (by kernel_rfl)
end Go.Proofs.YtjlibljfpkmpfaaGreatDoor.all
