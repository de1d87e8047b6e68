/-
  What a row's list of laid variables gives: the nine sentinels, the handle; a state of knowledge that fits.
-/
import Derived.Test.YtjlibljfpkmpfaaGreatDoorSv10
import Derived.Test.YtjlibljfpkmpfaaGreatDoorRows
import Derived.Stop.LaidErr
import Derived.LaidHandle
import Derived.ProofKit
namespace Go.Enc
open Go.RowKit Go.ChangeShapes Go.WideShapes Go.Proofs
section
variable {P : Program} {W : World} {nm : String} {ti tp te ts : TypeId} {ms : Array (String × TypeId)} {f : Field}
/-- A list of sentinels: the addresses, no two the same. -/
theorem sents_of (hi : P.underlying ti = some (.interface ms)) (hrow : ∀ u, P.typeName? 3 u = some nm → u = tp)
    (hp : P.underlying tp = some (.pointer te)) (he : P.underlying te = some (.struct #[f])) (hft : f.type = ts) (hfo : f.offset = 0) (hs : P.underlying ts = some .string) (hc : P.cellsOf te = 1) (hcs : P.cellsOf ts = 1)
    {ps0 : List MemPlace} (hrows : ∀ b off, MemPlace.cell b off ∈ ps0 → (∃ c t, W.heap[b]? = some (.cells c t (0, 0))) ∧ ∀ u v, W.cell? ⟨b, off, none⟩ = some (.iface u v) → Value.okWide P W .any 0 u v) :
    ∀ (l : List (Nat × String × List UInt8)) (ps : List MemPlace), (∀ x ∈ l, P.globalNamed x.2.1 = some x.1 ∧ (P.globals[x.1]?).map (·.type) = some ti) →
      DataW.LaidVars P W (l.map fun x => (x.2.1, .iface nm (.ptr (.agg [.lit (.string x.2.2)])))) ps → ps.Sublist ps0 →
      ∃ ads : List Addr, ads.length = l.length ∧ (ads.map fun a => MemPlace.cell a.block a.off).Sublist ps ∧
        ∀ (i : Nat) x a, l[i]? = some x → ads[i]? = some a → W.cell? ⟨x.1, 0, none⟩ = some (.iface tp (.pointer (some a))) ∧ ∃ c t, W.heap[a.block]? = some (.cells c t (0, 0))
  | [], ps, _, h, _ => ⟨[], rfl, List.nil_sublist _, fun i x a h1 h2 => by simp at h1⟩
  | x :: l, ps, hg, h, hsub => by
    obtain ⟨g0, t0, cs0, f0, p0, q0, hg0, ht0, hv0, hd0, hr, e0⟩ := h
    obtain ⟨h1, h2⟩ := hg x (by simp)
    obtain rfl := Option.some.inj (h1.symm.trans hg0)
    obtain rfl := Option.some.inj (h2.symm.trans ht0)
    obtain ⟨l0⟩ := cs0
    have hmem : ∀ z ∈ ps, z ∈ ps0 := fun z hz => hsub.subset hz
    have ok0 : ∀ u v, l0 = [.iface u v] → Value.okWide P W .any 0 u v := fun u v e => by
      subst e
      exact (hrows x.1 0 (hmem _ (by rw [e0]; simp [MemPlace.row]))).2 u v (by simpa using World.var?_cell hg0 hv0 0)
    obtain ⟨a0, s0, rfl, hc0, hs0, hz0, rfl⟩ := errorString_of_trod hi hrow hp he hft hfo hs hc hcs hd0 ok0
    obtain ⟨ads, k1, k2, k3⟩ := sents_of hi hrow hp he hft hfo hs hc hcs hrows l q0 (fun y hy => hg y (by simp [hy])) hr ((by rw [e0]; exact List.sublist_append_right _ _ : q0.Sublist ps).trans hsub)
    refine ⟨a0 :: ads, by simp [k1], ?_, fun i y a h3 h4 => ?_⟩
    · rw [e0]
      have : MemPlace.row a0 1 = [MemPlace.cell a0.block a0.off] := by simp [MemPlace.row]
      rw [this, List.append_assoc]
      refine List.Sublist.trans ?_ (List.sublist_append_right _ _)
      exact (k2.cons_cons _)
    · cases i with
      | zero =>
        simp only [List.getElem?_cons_zero, Option.some.injEq] at h3 h4
        subst h3 h4
        exact ⟨by simpa using World.var?_cell hg0 hv0 0, (hrows a0.block a0.off (hmem _ (by rw [e0]; simp [MemPlace.row]))).1⟩
      | succ i => exact k3 i y a (by simpa using h3) (by simpa using h4)
end
/-- What is known of the variables. -/
def glb (q : Nat → Addr) (more : Nat → Option Value) (g : Nat) : Option Value := if g < 9 then some (errV (q g)) else if g = 11 then some (.iface 199 (.agg #[.pointer (some ⟨12, 61, none⟩)])) else more g
theorem star : "*" ++ "errors.errorString" = "*errors.errorString" := by decide
theorem rowErr (u : TypeId) (h : Tryz.prog.typeName? 3 u = some "*errors.errorString") : u = 213 :=
  typeName_ptr_named (nm := "errors.errorString") (by rw [star]; kernel_rfl) (by kernel_rfl) (by decide) u (by rw [star]; exact h)
theorem etNamed : Tryz.prog.globalNamed "errors.errorType" = some 11 := by kernel_rfl
theorem rtRow : (Tryz.prog.cutTypes.find? (·.1 == "internal/reflectlite.rtype")).map (·.2) = some 199 := by kernel_rfl
theorem oneRow : ((List.range 247).filter fun t => Tryz.prog.rowNamed t [101, 114, 114, 111, 114]) = [61] := by kernel_rfl
theorem typesSize : Tryz.prog.types.size = 247 := by kernel_rfl
/-- The handle's condition: the variable's one cell. -/
theorem handle_cell {W : World} {d : DataW Unit} (hd1 : d.funcsIn? = none) (hd2 : d.handleName? = some [101, 114, 114, 111, 114]) {l : List (String × DataW Unit)} (h : handlesMet Tryz.prog l W) (hm : ("errors.errorType", d) ∈ l) :
    W.cell? ⟨11, 0, none⟩ = some (.iface 199 (.agg #[.pointer (some ⟨12, 61, none⟩)])) := by
  have h0 := h _ hm
  simp only [hd1] at h0
  obtain ⟨name, u, ty, e1, e2, e3, e4, e5⟩ := h0
  have en : name = [101, 114, 114, 111, 114] := (Option.some.inj (hd2.symm.trans e1)).symm
  subst en
  obtain rfl := Option.some.inj (rtRow.symm.trans e2)
  have hm : ty ∈ (List.range 247).filter fun t => Tryz.prog.rowNamed t [101, 114, 114, 111, 114] := List.mem_filter.2 ⟨List.mem_range.2 (by rw [← typesSize]; exact e3), e4⟩
  rw [oneRow] at hm
  obtain rfl := List.mem_singleton.1 hm
  have hh : typeHandle Tryz.prog 61 = .pointer (some ⟨12, 61, none⟩) := by kernel_rfl
  rw [hh] at e5
  simpa using World.var?_cell etNamed e5 0
/-- The nine, by number, name and text. -/
def nine : List (Nat × String × List UInt8) := [(0, "enclose/enclose.ErrFloat", [110, 111, 32, 112, 108, 97, 105, 110, 32, 102, 108, 111, 97, 116]), (1, "enclose/enclose.ErrOrder", [101, 110, 100, 115, 32, 105, 110, 32, 116, 104, 101, 32, 119, 114, 111, 110, 103, 32, 111, 114, 100, 101, 114]), (2, "enclose/enclose.ErrRange", [111, 117, 116, 32, 111, 102, 32, 114, 97, 110, 103, 101]), (3, "enclose/enclose.ErrZero", [100, 105, 118, 105, 115, 105, 111, 110, 32, 98, 121, 32, 119, 104, 97, 116, 32, 104, 111, 108, 100, 115, 32, 48]), (4, "enclose/enclose.ErrNegative", [114, 111, 111, 116, 32, 111, 102, 32, 119, 104, 97, 116, 32, 105, 115, 32, 98, 101, 108, 111, 119, 32, 48]), (5, "enclose/enclose.ErrEmpty", [110, 111, 116, 104, 105, 110, 103, 32, 105, 110, 32, 99, 111, 109, 109, 111, 110]), (6, "enclose/enclose.ErrName", [110, 111, 32, 115, 117, 99, 104, 32, 111, 112, 101, 114, 97, 116, 105, 111, 110]), (7, "enclose/enclose.ErrShape", [119, 114, 111, 110, 103, 32, 115, 104, 97, 112, 101]), (8, "enclose/enclose.ErrSure", [110, 111, 116, 32, 115, 117, 114, 101, 32, 111, 102, 32, 97, 110, 32, 97, 110, 115, 119, 101, 114])]
theorem nine_ok : ∀ x ∈ nine, Tryz.prog.globalNamed x.2.1 = some x.1 ∧ (Tryz.prog.globals[x.1]?).map (·.type) = some 61 := by
  intro x hx
  simp only [nine, List.mem_cons, List.not_mem_nil, or_false] at hx
  rcases hx with rfl | rfl | rfl | rfl | rfl | rfl | rfl | rfl | rfl <;> exact ⟨by kernel_rfl, by kernel_rfl⟩
def nineLaid : List (String × DataW Unit) := nine.map fun x => (x.2.1, .iface "*errors.errorString" (.ptr (.agg [.lit (.string x.2.2)])))
theorem sent_of_laid {W : World} (h : laidMet Tryz.prog nineLaid W) :
    ∃ q : Nat → Addr, (∀ g, g < 9 → W.cell? ⟨g, 0, none⟩ = some (errV (q g)) ∧ Hard W (q g).block) ∧ ∀ i j, i < 9 → j < 9 → q i = q j → i = j := by
  obtain ⟨ps, hv, hnd, hrows⟩ := h
  obtain ⟨ads, k1, k2, k3⟩ := sents_of Tryz.underlying61 rowErr Tryz.underlying213 Tryz.underlying235 rfl rfl Tryz.underlying9 (by kernel_rfl) (by kernel_rfl) hrows nine ps nine_ok hv (List.Sublist.refl _)
  have hn := List.Nodup.sublist k2 hnd
  have hl : ads.length = 9 := k1
  refine ⟨fun i => ads.getD i ⟨0, 0, none⟩, fun g hg => ?_, fun i j hi hj e => ?_⟩
  · have h1 : ads[g]? = some (ads.getD g ⟨0, 0, none⟩) := by rw [List.getD_eq_getElem?_getD, List.getElem?_eq_getElem (by omega)]; rfl
    have h2 : ∃ x, nine[g]? = some x ∧ x.1 = g := by
      have : g = 0 ∨ g = 1 ∨ g = 2 ∨ g = 3 ∨ g = 4 ∨ g = 5 ∨ g = 6 ∨ g = 7 ∨ g = 8 := by omega
      rcases this with rfl | rfl | rfl | rfl | rfl | rfl | rfl | rfl | rfl <;> exact ⟨_, rfl, rfl⟩
    obtain ⟨x, h2, h3⟩ := h2
    obtain ⟨c1, c2⟩ := k3 g x _ h2 h1
    rw [h3] at c1
    exact ⟨c1, c2⟩
  · have h1 : ads.getD i ⟨0, 0, none⟩ = ads[i]'(by omega) := by rw [List.getD_eq_getElem?_getD, List.getElem?_eq_getElem (by omega)]; rfl
    have h2 : ads.getD j ⟨0, 0, none⟩ = ads[j]'(by omega) := by rw [List.getD_eq_getElem?_getD, List.getElem?_eq_getElem (by omega)]; rfl
    simp only [h1, h2] at e
    have hp := List.pairwise_iff_getElem.1 hn
    rcases Nat.lt_trichotomy i j with hij | hij | hij
    · exact (hp i j (by simp; omega) (by simp; omega) hij (by simp [e])).elim
    · exact hij
    · exact (hp j i (by simp; omega) (by simp; omega) hij (by simp [e])).elim
/-- A state of knowledge: all that lies in rows of cells. -/
theorem fits_of {W : World} {q : Nat → Addr} {more : Nat → Option Value} (hq : ∀ g, g < 9 → W.cell? ⟨g, 0, none⟩ = some (errV (q g)) ∧ Hard W (q g).block)
    (hm : ∀ g u, more g = some u → W.cell? ⟨g, 0, none⟩ = some u ∧ ∀ t a, u ≠ .iface t (.pointer (some a)))
    (he : W.cell? ⟨11, 0, none⟩ = some (.iface 199 (.agg #[.pointer (some ⟨12, 61, none⟩)])))
    (ht : ∀ u, more tabG = some u → Rep (fun b o => W.cell? ⟨b, o, none⟩) tabD u) :
    Fits (glb q more) (fun b o => W.cell? ⟨b, o, none⟩) W := by
  have hg : ∀ g u, glb q more g = some u → W.cell? ⟨g, 0, none⟩ = some u := fun g u h => by
    unfold glb at h
    split at h
    · rename_i h9; cases h; exact (hq g h9).1
    · split at h
      · rename_i e; subst e; cases h; exact he
      · exact (hm g u h).1
  have ht' : ∀ u, glb q more tabG = some u → Rep (fun b o => W.cell? ⟨b, o, none⟩) tabD u := fun u h => by
    unfold glb at h
    rw [if_neg (by decide), if_neg (by decide)] at h
    exact ht u h
  refine ⟨fun _ _ _ h => h, hg, ht', fun b o u h _ => ?_, fun g t a h => ?_⟩
  · unfold World.cell? at h
    cases hb : W.heap[b]? with
    | none => simp [hb] at h
    | some ob => cases ob with
      | cells c t fr => exact ⟨c, t, fr, hb⟩
      | _ => simp [hb] at h
  · unfold glb at h
    split at h
    · rename_i h9
      simp only [errV, Option.some.injEq, Value.iface.injEq, Value.pointer.injEq] at h
      rw [← h.2]
      exact (hq g h9).2
    · split at h
      · simp at h
      · exact absurd rfl ((hm g _ h).2 t a)
theorem sent_glb {q : Nat → Addr} {more : Nat → Option Value} (hinj : ∀ i j, i < 9 → j < 9 → q i = q j → i = j) : Sent (glb q more) q :=
  ⟨fun g hg => by simp [glb, hg], hinj, by simp [glb]⟩
/-- A contract on data ads one of the kit's. -/
theorem calls_of_dcall {P : Program} {E : Nat → Option Value} {f : FuncId} {fn : Func} {c : Code} {ds : List D} {r : Res} (hf : P.funcs[f]? = some fn) (hb : fn.body = some c) (hname : (fn.name == "runtime.NumGoroutine") = false) (h : DCall P E f ds r)
    {σ : Mem} {w : World} {us : List Value} (hF : Fits E σ w) (ha : RepL σ ds us) : Calls P f us.toArray w fun e w' => ∃ u, e = .returned u ∧ After σ w r u w' := by
  have := h σ w us hF ha ⟨some 0, .call ⟨.value (.func f), #[], #[]⟩, 0, "", #[], none⟩ { tmps := #[undef], defers := [] } (fun a w' => ∃ u, a.tmps.getD 0 undef = u ∧ After σ w r u w') (fun _ _ _ => False) (fun u w' hA => ⟨u, by simp [Act.put], hA⟩)
  rw [run_enter hf hb hname, Oper.upon_enter] at this
  refine this.mono fun e w' h' => ?_
  cases e with
  | returned u =>
    obtain ⟨u', h1, h2⟩ := h'
    simp [Act.put] at h1
    subst h1
    exact ⟨_, rfl, h2⟩
  | _ => first | exact h'.elim | (obtain ⟨_, h'⟩ := h'; exact h'.elim) | (obtain ⟨_, _, h'⟩ := h'; exact h'.elim)
section
variable {H : Type} {enc : TypeId × Value → H} {P : Program}
theorem post_of_below {f : Func} {s : ChangeSpec} {apart fresh handsOn again : Bool} {W W' : World} {args : Array Value} {v : Value} {ds gs : List (DataW H)} {before pa pv : List MemPlace}
    (hW : DataW.Whole enc P f.params.toList s.vars apart W args.toList ds gs before)
    (hres : ∀ (b : Nat) (sp : Nat → Bool) (hd : Bool), DataW.TrodAll enc P W' b sp hd f.resultTypes.toList (v.resultList f.resultTypes.size) (s.fn H (ds ++ gs)).results [])
    (hargs : ∀ sp : Nat → Bool, (∀ p ∈ before, sp p.block = true) → DataW.TrodAll enc P W' 0 sp true f.params.toList args.toList (s.fn H (ds ++ gs)).args pa)
    (hvars : ∀ sp : Nat → Bool, (∀ p ∈ before, sp p.block = true) → DataW.TrodVars enc P W' sp s.vars (s.fn H (ds ++ gs)).vars pv)
    (hps : before = pa ++ pv) (hb : Below W.heap.size W W')
    (hok : ∀ (j : Nat) (t : TypeId) (r : Value), f.resultTypes[j]? = some t → (v.resultList f.resultTypes.size)[j]? = some r → Value.okWide P W' .any 0 t r) :
    s.post enc P f apart fresh handsOn again W args v W' := by
  have hlt : ∀ p ∈ before, p.block < W.heap.size := fun p hp => hW.lt p hp
  have hold : ∀ p ∈ before, (fun b => decide (b < W.heap.size)) p.block = true := fun p hp => by simpa using hlt p hp
  refine ⟨ds, gs, before, [], pa, pv, hW, hres _ _ _, hargs _ hold, hvars _ hold, World.keptBut_mono (fun p hp => ⟨hp, ?_⟩) (hb.frame (· ∈ before)), fun _ => ?_⟩
  · rw [hps, List.mem_append] at hp
    exact Or.inr hp
  · obtain ⟨_, _, _, _, _, hz, hn⟩ := hW
    refine ⟨hok, _, _, ([] ++ pa) ++ pv, ⟨[] ++ pa, pv, trodAll_append (hargs _ (fun _ _ => rfl)) (hres _ _ _), hvars _ (fun _ _ => rfl), rfl, ?_, ?_⟩, ?_⟩
    · intro b off hp
      have hin : MemPlace.cell b off ∈ before := by rw [hps]; simpa using hp
      rw [hb.frozen (hlt _ hin)]
      exact hz b off hin
    · intro ha
      have := hn ha
      rw [hps] at this
      simpa using this
    · intro p hp _
      rw [hps]
      simpa using hp
end
/-! ### A world that meets the condition -/
def texts : List ByteArray := [⟨#[110, 111, 32, 112, 108, 97, 105, 110, 32, 102, 108, 111, 97, 116]⟩, ⟨#[101, 110, 100, 115, 32, 105, 110, 32, 116, 104, 101, 32, 119, 114, 111, 110, 103, 32, 111, 114, 100, 101, 114]⟩, ⟨#[111, 117, 116, 32, 111, 102, 32, 114, 97, 110, 103, 101]⟩, ⟨#[100, 105, 118, 105, 115, 105, 111, 110, 32, 98, 121, 32, 119, 104, 97, 116, 32, 104, 111, 108, 100, 115, 32, 48]⟩, ⟨#[114, 111, 111, 116, 32, 111, 102, 32, 119, 104, 97, 116, 32, 105, 115, 32, 98, 101, 108, 111, 119, 32, 48]⟩, ⟨#[110, 111, 116, 104, 105, 110, 103, 32, 105, 110, 32, 99, 111, 109, 109, 111, 110]⟩, ⟨#[110, 111, 32, 115, 117, 99, 104, 32, 111, 112, 101, 114, 97, 116, 105, 111, 110]⟩, ⟨#[119, 114, 111, 110, 103, 32, 115, 104, 97, 112, 101]⟩, ⟨#[110, 111, 116, 32, 115, 117, 114, 101, 32, 111, 102, 32, 97, 110, 32, 97, 110, 115, 119, 101, 114]⟩]
noncomputable def low : Nat := (World.holding Tryz.prog default ⟨#[], #[], []⟩).heap.size
def setGlobal (h : Array Go.Obj) (g : Nat) (v : Value) : Array Go.Obj := h.modify g fun
  | .cells _ t frozen => .cells #[v] t frozen
  | o => o
end Go.Enc
