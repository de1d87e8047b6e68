/-
  The errors as data: contracts out of walks; errors.Is at sentinels.
-/
import Derived.Test.YtjlibljfpkmpfaaGreatDoorDraw
import Derived.Test.YtjlibljfpkmpfaaGreatDoorErrI
namespace Go.Enc
open Go.RowKit

/-- A contract on data out of a contract of the kit's. -/
theorem dcall_calls {P : Program} {E : Nat → Option Value} {f : FuncId} {fn : Func} {c : Code} {args : List D} {r : Res} (hf : P.funcs[f]? = some fn) (hb : fn.body = some c) (hname : (fn.name == "runtime.NumGoroutine") = false)
    (h : ∀ (σ : Mem) (w : World) (us : List Value), Fits E σ w → RepL σ args us → Calls P f us.toArray w fun e w' => ∃ u, e = .returned u ∧ After σ w r u w') : DCall P E f args r := by
  intro σ w us hF hargs o a next Q hnext
  have hcall : (callFunc f us.toArray).run P w = .ok (.enter f us.toArray) w := by
    have hne : ¬ (fn.name = "runtime.NumGoroutine") := by simpa using hname
    simp [callFunc, hf, hne, hb]
  rw [hcall, Oper.upon_enter]
  refine (h σ w us hF hargs).mono ?_
  rintro e w' ⟨u, rfl, hA⟩
  exact hnext u w' hA

theorem run_enter {P : Program} {f : FuncId} {fn : Func} {c : Code} (hf : P.funcs[f]? = some fn) (hb : fn.body = some c) (hname : (fn.name == "runtime.NumGoroutine") = false) (us : Array Value) (w : World) : (callFunc f us).run P w = .ok (.enter f us) w := by
  have hne : ¬ (fn.name = "runtime.NumGoroutine") := by simpa using hname
  simp [callFunc, hf, hne, hb]

theorem After.same {E : Nat → Option Value} {σ : Mem} {w : World} {d : D} {u : Value} (hF : Fits E σ w) (h : Rep σ d u) : After σ w (.data d) u w :=
  ⟨σ, Mem.le_refl _, fun _ _ _ => rfl, hF.inv, fun b o v h1 h2 => absurd (lt_of_cell' (hF.inv b o v h2)) (by omega), Below.refl _ _, h⟩

/-- The sentinel that lies at an address. -/
abbrev errV (a : Addr) : Value := .iface 213 (.pointer (some a))
/-- The nine sentinels: what the nine variables hold; nine blocks. -/
structure Sent (E : Nat → Option Value) (q : Nat → Addr) : Prop where
  var : ∀ g, g < 9 → E g = some (errV (q g))
  inj : ∀ i j, i < 9 → j < 9 → q i = q j → i = j
  typ : E 11 = some (.iface 199 (.agg #[.pointer (some ⟨12, 61, none⟩)]))

abbrev boolD (b : Bool) : D := .v (.bool b)

set_option maxRecDepth 100000 in
open Go.Proofs Go.Proofs.YtjlibljfpkmpfaaGreatDoor in
theorem is_sent {E : Nat → Option Value} {q : Nat → Addr} (hq : Sent E q) {i j : Nat} (hi : i < 9) (hj : j < 9) : DCall Tryz.prog E 80 [.v (errV (q i)), .v (errV (q j))] (.data (boolD (i == j))) := by
  refine dcall_calls Tryz.func80 rfl (by kernel_rfl) fun σ w us hF hargs => ?_
  simp only [RepL, Rep] at hargs
  obtain ⟨_, _, rfl, rfl, _, _, rfl, rfl, rfl⟩ := hargs
  by_cases h : i = j
  · subst h
    refine (er_is_same (q i) w).mono ?_
    rintro e w' ⟨rfl, rfl⟩
    exact ⟨_, rfl, After.same hF (by simp [boolD, Rep])⟩
  · obtain ⟨ci, ti, h1⟩ := hF.gp i _ _ (hq.var i hi)
    obtain ⟨cj, tj, h2⟩ := hF.gp j _ _ (hq.var j hj)
    refine (er_is_other (q i) (q j) ci cj ti tj w (fun e => h (hq.inj i j hi hj (by simpa using e))) h1 h2).mono ?_
    rintro e w' ⟨rfl, rfl⟩
    exact ⟨_, rfl, After.same hF (by simp [boolD, Rep, h])⟩

set_option maxRecDepth 100000 in
open Go.Proofs Go.Proofs.YtjlibljfpkmpfaaGreatDoor in
theorem is_op {E : Nat → Option Value} {q : Nat → Addr} (hq : Sent E q) {i j : Nat} (hi : i < 9) (hj : j < 9) (nm : D) : DCall Tryz.prog E 80 [.ip 119 [nm, .v (errV (q i))], .v (errV (q j))] (.data (boolD (i == j))) := by
  refine dcall_calls Tryz.func80 rfl (by kernel_rfl) fun σ w us hF hargs => ?_
  simp only [RepL, Rep, RepC] at hargs
  obtain ⟨_, _, rfl, ⟨b, o, rfl, h1, ⟨u, hu, hu1, rfl⟩, _⟩, _, _, rfl, rfl, rfl⟩ := hargs
  have hc := hF.inv _ _ _ hu
  by_cases h : i = j
  · subst h
    refine (er_is_wrap_same b o (q i) w hc).mono ?_
    rintro e w' ⟨rfl, rfl⟩
    exact ⟨_, rfl, After.same hF (by simp [boolD, Rep])⟩
  · obtain ⟨ci, ti, h1⟩ := hF.gp i _ _ (hq.var i hi)
    obtain ⟨cj, tj, h2⟩ := hF.gp j _ _ (hq.var j hj)
    refine (er_is_wrap_other b o (q j) (q i) ci cj ti tj w hc (fun e => h (hq.inj i j hi hj (by simpa using e))) h1 h2).mono ?_
    rintro e w' ⟨rfl, rfl⟩
    exact ⟨_, rfl, After.same hF (by simp [boolD, Rep, h])⟩

section
variable {C : Ctx} {σ : Mem} {G : Gh} {s : St} {a : Act} {w : World}

theorem Stands.grown0 (S : Stands C σ G s a w) {w' : World} (hb : Below w.heap.size w w') : Stands C σ G s a w' :=
  S.after (Mem.le_refl _) (fun _ _ _ => rfl) (fun b o v h => by
    have h1 := S.inv b o v h
    have h2 := lt_of_cell' h1
    rw [World.cell?_of_block (hb.block b h2)]; exact h1) (fun b o v h1 h2 => absurd (lt_of_cell' (S.inv b o v h2)) (by omega)) hb

theorem Stands.alloc3 (S : Stands C σ G s a w) (x y z : Go.Obj) : Stands C σ G s a (((w.alloc x).alloc y).alloc z) :=
  S.grown0 ((((Below.refl w.heap.size w).alloc (Nat.le_refl _) x).alloc (by simp) y).alloc (by simp; omega) z)
theorem Stands.alloc4 (S : Stands C σ G s a w) (x y z u : Go.Obj) : Stands C σ G s a ((((w.alloc x).alloc y).alloc z).alloc u) :=
  S.grown0 (((((Below.refl w.heap.size w).alloc (Nat.le_refl _) x).alloc (by simp) y).alloc (by simp; omega) z).alloc (by simp; omega) u)

theorem Stands.typ (S : Stands C σ G s a w) {q : Nat → Addr} (hq : Sent C.E q) : w.cell? ⟨11, 0, none⟩ = some (.iface 199 (.agg #[.pointer (some ⟨12, 61, none⟩)])) :=
  S.inv _ _ _ (S.le _ _ _ (S.glob _ _ hq.typ))

set_option maxRecDepth 100000 in
open Go.Proofs Go.Proofs.YtjlibljfpkmpfaaGreatDoor in
/-- errors.As at an *OpError: the caller's variable holds the error's pointer. -/
theorem as_op {q : Nat → Addr} (hP : C.P = Tryz.prog) (hq : Sent C.E q) {k : Nat} {c0 : T} {cells : List D} {dst : Option Nat} (hk : s.h k = some ⟨none, [c0]⟩) :
    PCall C 78 [.d (.ip 119 cells), .ipr 121 k] dst s ((s.setH k ⟨none, [.d (.pd cells 0)]⟩).put dst (.d (boolD true))) := by
  intro σ G a w us S hlen hrep hd o next Q ho hnext
  obtain ⟨u1, u2, rfl⟩ : ∃ u1 u2, us = [u1, u2] := by
    match us, hlen with
    | [u1, u2], _ => exact ⟨u1, u2, rfl⟩
  have r1 := hrep 0 _ u1 rfl rfl
  have r2 := hrep 1 _ u2 rfl rfl
  simp only [RepT, Rep] at r1 r2
  obtain ⟨b1, o1, rfl, hc1⟩ := r1
  obtain ⟨b, hb, rfl⟩ := r2
  obtain ⟨hbase, cur, ty, vs, hrow, hcells, sp, hcur⟩ := S.row hk hb
  have hfz := frozen_of_row w b 0 cur ty hrow
  have hlt : 0 < cur.size := by
    have h1 := hcells.length
    have : cur.toList.length = vs.length + sp.length := by rw [hcur]; simp
    simp only [Array.length_toList, List.length_cons, List.length_nil] at this h1
    omega
  have hcell : w.cell? ⟨b, 0, none⟩ = some cur[0] := by rw [cell_of_row w b 0 cur ty (0, 0) hrow, Array.getElem?_eq_getElem hlt]
  have hcall : (callFunc 78 [Value.iface 119 (.pointer (some ⟨b1, o1, none⟩)), .iface 121 (.pointer (some ⟨b, 0, none⟩))].toArray).run Tryz.prog w = .ok (.enter 78 [Value.iface 119 (.pointer (some ⟨b1, o1, none⟩)), .iface 121 (.pointer (some ⟨b, 0, none⟩))].toArray) w := by
    exact run_enter Tryz.func78 rfl (by kernel_rfl) _ _
  rw [hP, hcall, Oper.upon_enter]
  refine (er_as_hit ⟨b1, o1, none⟩ ⟨b, 0, none⟩ _ w (S.typ hq) hcell hfz).mono ?_
  rintro e w' ⟨rfl, rfl⟩
  subst ho
  refine hnext σ G _ _ ?_
  exact ((S.alloc4 _ _ _ _).setCell hk hb (off := 0) (by simp) (c := .d (.pd cells 0)) (u := .pointer (some ⟨b1, o1, none⟩)) rfl (by simp only [RepT, Rep]; exact ⟨b1, o1, rfl, hc1⟩) (by simp [T.ref]) .plain).2.put (x := .d (boolD true)) (u := .bool true) (by simp [RepT, Rep, boolD]) (by simp [T.ref]) hd

set_option maxRecDepth 100000 in
open Go.Proofs Go.Proofs.YtjlibljfpkmpfaaGreatDoor in
/-- errors.As at a sentinel: no hit. -/
theorem as_sent {q : Nat → Addr} (hP : C.P = Tryz.prog) (hq : Sent C.E q) {k : Nat} {i : Addr} {c0 : T} {dst : Option Nat} (hk : s.h k = some ⟨none, [c0]⟩) :
    PCall C 78 [.d (.v (errV i)), .ipr 121 k] dst s (s.put dst (.d (boolD false))) := by
  intro σ G a w us S hlen hrep hd o next Q ho hnext
  obtain ⟨u1, u2, rfl⟩ : ∃ u1 u2, us = [u1, u2] := by
    match us, hlen with
    | [u1, u2], _ => exact ⟨u1, u2, rfl⟩
  have r1 := hrep 0 _ u1 rfl rfl
  have r2 := hrep 1 _ u2 rfl rfl
  simp only [RepT, Rep] at r1 r2
  subst r1
  obtain ⟨b, hb, rfl⟩ := r2
  obtain ⟨hbase, cur, ty, vs, hrow, hcells, sp, hcur⟩ := S.row hk hb
  have hfz := frozen_of_row w b 0 cur ty hrow
  have hlt : 0 < cur.size := by
    have h1 := hcells.length
    have : cur.toList.length = vs.length + sp.length := by rw [hcur]; simp
    simp only [Array.length_toList, List.length_cons, List.length_nil] at this h1
    omega
  have hcell : w.cell? ⟨b, 0, none⟩ = some cur[0] := by rw [cell_of_row w b 0 cur ty (0, 0) hrow, Array.getElem?_eq_getElem hlt]
  have hcall : (callFunc 78 [errV i, .iface 121 (.pointer (some ⟨b, 0, none⟩))].toArray).run Tryz.prog w = .ok (.enter 78 [errV i, .iface 121 (.pointer (some ⟨b, 0, none⟩))].toArray) w := by
    exact run_enter Tryz.func78 rfl (by kernel_rfl) _ _
  rw [hP, hcall, Oper.upon_enter]
  refine (er_as_miss i ⟨b, 0, none⟩ _ w (S.typ hq) hcell hfz).mono ?_
  rintro e w' ⟨rfl, rfl⟩
  subst ho
  refine hnext σ G _ _ ?_
  exact (S.alloc3 _ _ _).put (x := .d (boolD false)) (u := .bool false) (by simp [RepT, Rep, boolD]) (by simp [T.ref]) hd
end
end Go.Enc
