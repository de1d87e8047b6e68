/-
  The machine does the step.
-/
import Derived.LaidEql
import Derived.Test.YtjlibljfpkmpfaaDoorStep
namespace Go.Enc
open Go.RowKit

section
variable {C : Ctx} {σ : Mem} {G : Gh} {s : St} {a : Act} {w : World}

theorem run_errs (S : Stands C σ G s a w) {ti tp te : TypeId} {ms : Array (String × TypeId)} {p q : Addr} {c : Bool} (f1 : C.P.underlying ti = some (.interface ms)) (f2 : C.P.underlying tp = some (.pointer te))
    (f3 : (C.P.info? tp).map (·.comparable) = some true) (f4 : (C.P.info? te).map (·.size) = some 1)
    (hc : (p = q ∧ c = true) ∨ (p ≠ q ∧ c = false ∧ (∃ g, C.E g = some (.iface tp (.pointer (some p)))) ∧ ∃ g, C.E g = some (.iface tp (.pointer (some q))))) :
    (binOp .eql ti (.iface tp (.pointer (some p))) (.iface tp (.pointer (some q)))).run C.P w = .ok (.bool c) w ∧
    (binOp .neq ti (.iface tp (.pointer (some p))) (.iface tp (.pointer (some q)))).run C.P w = .ok (.bool !c) w := by
  obtain ⟨i, hi, hcmp⟩ := Option.map_eq_some_iff.1 f3
  obtain ⟨j, hj, hjs⟩ := Option.map_eq_some_iff.1 f4
  rcases hc with ⟨rfl, rfl⟩ | ⟨hne, rfl, ⟨g, hg⟩, ⟨g', hg'⟩⟩
  · refine ⟨run_eql_iface_ptr_same w p f1 f2 hi hcmp hj, ?_⟩
    simp only [binOp]
    simp [Op.equal, Op.maxDepth, run_equalIn_iface_ptr_same w 9998 p f1 f2 hi hcmp hj]
  · have H : ∀ g x, C.E g = some (.iface tp (.pointer (some x))) → Hard w x.block := fun g x hg => (S.gp g tp x hg).2.of_eq (S.bel.block _ (S.gp g tp x hg).1)
    obtain ⟨ca, ta, ha⟩ := H g p hg
    obtain ⟨cb, tb, hb⟩ := H g' q hg'
    refine ⟨run_eql_iface_ptr_other w f1 f2 hi hcmp hj (by rw [hjs]; decide) hne ha hb, ?_⟩
    simp only [binOp]
    simp [Op.equal, Op.maxDepth, run_equalIn_iface_ptr_other w 9998 f1 f2 hi hcmp hj (by rw [hjs]; decide) hne ha hb]

/-- Behind a call: what is known stays, the local blocks stand. -/
theorem Stands.after (S : Stands C σ G s a w) {σ' : Mem} {w' : World} (hle : σ.le σ') (hold : ∀ b o, b < w.heap.size → σ' b o = σ b o)
    (hinv : ∀ b o v, σ' b o = some v → w'.cell? ⟨b, o, none⟩ = some v) (hhard : ∀ b o v, w.heap.size ≤ b → σ' b o = some v → Soft w' b) (hbel : Below w.heap.size w w') : Stands C σ' G s a w' := by
  have hg : w.grownBy w' none := ⟨hbel.os, hbel.tape, hbel.output, hbel.size, fun k hk _ => hbel.block k hk⟩
  have hm : ∀ k o, ObjIs σ G w' C.base k o → ObjIs σ' G w' C.base k o := fun k o h => by
    unfold ObjIs at h ⊢
    split at h
    · obtain ⟨x, us, ty, h1, h2, h3, h4, h5⟩ := h; exact ⟨x, us, ty, h1, h2, h3, h4.mono hle, h5⟩
    · obtain ⟨n, us, h1, h2, h3, h4⟩ := h; exact ⟨n, us, h1, h2.mono hle, h3, h4⟩
  refine { S with
    le := Mem.le_trans S.le hle
    old := fun b o hb => by rw [hold b o (Nat.lt_of_lt_of_le hb S.size)]; exact S.old b o hb
    inv := hinv
    hard := fun b o u h he => by
      rcases Nat.lt_or_ge b w.heap.size with h1 | h1
      · exact (S.hard b o u (by rw [← hold b o h1]; exact h) he).of_eq (hbel.block b h1)
      · exact hhard b o u h1 h
    bel := S.bel.trans (hbel.mono S.size)
    slot := fun i => (S.slot i).mono hle
    obj := fun k o h => hm k o ((S.obj k o h).grown hg (by simp))
    own := fun k o b h hb i => ?_ }
  rw [hold b i ((S.obj k o h).block hb).2]
  exact S.own k o b h hb i

theorem asDs_sound (S : Stands C σ G s a w) : ∀ (xs : List Operand) (ds : List D), asDs (xs.map s.ev) = some ds → RepL σ ds (xs.map a.eval)
  | [], ds, h => by simp only [List.map_nil, asDs, Option.some.injEq] at h; subst h; simp [RepL]
  | x :: xs, ds, h => by
    simp only [List.map_cons] at h
    have hx := S.ev x
    cases hv : s.ev x with
    | d y =>
      rw [hv] at h hx
      simp only [asDs, Option.map_eq_some_iff] at h
      obtain ⟨ds', h', rfl⟩ := h
      simp only [List.map_cons, RepL]
      exact ⟨_, _, rfl, hx, asDs_sound S xs ds' h'⟩
    | ptr _ _ => rw [hv] at h; simp [asDs] at h
    | gs _ => rw [hv] at h; simp [asDs] at h
    | ipr _ _ => rw [hv] at h; simp [asDs] at h

theorem Stands.rowPut {k0 : Nat} {g0 : Option Nat × Value} {ob : Obj} (S : Stands C σ (upd G k0 g0) (s.new k0 ob) a w) {d : Nat} (hd : d < C.n) (u : Value) (hu : g0.2 = u) {k0' : Nat} (e : k0 = k0') :
    Stands C σ (upd G k0 g0) ((s.new k0' ob).put (some d) (.gs k0')) (a.put (some d) u) w := by
  subst e
  refine S.put (by simp [RepT, upd_same, hu]) (fun k hk => ?_) (fun d' h => by cases h; exact hd)
  simp only [T.ref, Option.some.injEq] at hk
  subst hk
  simp [St.new, upd_same]

theorem run1_sound (S : Stands C σ G s a w) {o : Oper} {K : St → Prop} (h : run1 C o s K) (hd : ∀ d, o.dst = some d → d < C.n) {next : Act → World → Prop} (Q : Exit → Act → World → Prop)
    (hk : ∀ s' σ' G' a' w', K s' → Stands C σ' G' s' a' w' → next a' w') : o.wp C.P a w next Q := by
  have lift : ∀ (x : Sem Value) (u : Value) (w' : World), x.run C.P w = .ok u w' → ((do pure (.value (← x)) : Sem Next)).run C.P w = .ok (.value u) w' := fun x u w' h => by simp [h]
  have fin : ∀ u w', (execOp a.eval o).run C.P w = .ok (.value u) w' → next (a.put o.dst u) w' → o.wp C.P a w next Q := fun u w' h1 h2 => by
    unfold Oper.wp; rw [h1]; exact h2
  unfold run1 at h
  split at h
  · rename_i t hop
    obtain ⟨d, hdst, h⟩ := ws_spec h
    obtain ⟨cs, hcs, hkey, h⟩ := ws_spec h
    obtain ⟨z, z1, z2, z3, z4, _⟩ := zeroT_spec (σ := σ) (G := G) (w := w) hcs
    have S1 := S.newBox hkey (us := z.cells) z2 (fun c hc j hj => by rw [z4 c hc] at hj; cases hj) t
    refine fin (.pointer (some ⟨w.heap.size, 0, none⟩)) (w.alloc (.cells z.cells t)) ?_ ?_
    · unfold execOp; rw [hop]
      exact lift _ _ _ (by simp [Instr.alloc, z1, newVar, newRow])
    · refine hk _ σ (upd G (C.kb + d) (some w.heap.size, .pointer (some ⟨w.heap.size, 0, none⟩))) _ _ h ?_
      rw [hdst]
      refine S1.put (x := .ptr (C.kb + d) 0) (u := .pointer (some ⟨w.heap.size, 0, none⟩)) (by simp [RepT, upd_same]) (fun k hk' => ?_) (fun d' e => by cases e; exact hd d hdst)
      simp only [T.ref, Option.some.injEq] at hk'; subst hk'; simp [St.new, upd_same]
  · rename_i t x hop
    obtain ⟨d, hdst, h⟩ := ws_spec h
    obtain ⟨cs, hcs, hkey, h⟩ := ws_spec h
    obtain ⟨z2, z4⟩ := cellsT_sound S hcs (S.ev x) (S.evLive x)
    have S1 := S.newBox hkey (us := (a.eval x).cells) z2 z4 t
    refine fin (.pointer (some ⟨w.heap.size, 0, none⟩)) (w.alloc (.cells (a.eval x).cells t)) ?_ ?_
    · unfold execOp; rw [hop]
      exact lift _ _ _ (by simp [Instr.box, newVar, newRow])
    · refine hk _ σ (upd G (C.kb + d) (some w.heap.size, .pointer (some ⟨w.heap.size, 0, none⟩))) _ _ h ?_
      rw [hdst]
      refine S1.put (x := .ptr (C.kb + d) 0) (u := .pointer (some ⟨w.heap.size, 0, none⟩)) (by simp [RepT, upd_same]) (fun k hk' => ?_) (fun d' e => by cases e; exact hd d hdst)
      simp only [T.ref, Option.some.injEq] at hk'; subst hk'; simp [St.new, upd_same]
  · rename_i t len parts hop
    obtain ⟨d, hdst, h⟩ := ws_spec h
    obtain ⟨⟨e, size, bytes, zs⟩, hsl, h⟩ := ws_spec h
    simp only at h
    obtain ⟨h0, h1, h⟩ := h
    obtain ⟨cells, hf, hkey, h⟩ := ws_spec h
    obtain ⟨p1, p2⟩ := RepP_list S parts.toList
    obtain ⟨v, w', e1, S1⟩ := S.lit hsl h0 h1 p1 p2 hf hkey
    refine fin v w' ?_ (hk _ σ _ _ _ h (by rw [hdst]; exact S1.rowPut (hd d hdst) v rfl rfl))
    unfold execOp; rw [hop]
    refine lift _ _ _ ?_
    have : (parts.toList.map fun p => (p.1, a.eval p.2)).toArray = parts.map fun (i, x) => (i, a.eval x) := by
      rw [← Array.toArray_toList (xs := parts.map _)]; simp
    rw [← this]; exact e1
  · rename_i t l c hop
    obtain ⟨d, hdst, h⟩ := ws_spec h
    split at h
    · rename_i e size bytes z zs n m hsl hl hc
      obtain ⟨rfl, h0, h1, h2, h3, hkey, h⟩ := h
      have el := S.ev l
      have ec := S.ev c
      rw [hl] at el; rw [hc] at ec
      simp only [RepT, Rep] at el ec
      obtain ⟨v, w', e1, S1⟩ := S.make hsl h1 h2 h3 hkey
      rw [Int.toNat_of_nonneg h0] at e1
      refine fin v w' ?_ (hk _ σ _ _ _ h (by rw [hdst]; exact S1.rowPut (hd d hdst) v rfl rfl))
      unfold execOp; rw [hop]
      exact lift _ _ _ (by rw [el, ec]; exact e1)
    · exact h.elim
  · rename_i t p x hop
    split at h
    · rename_i k off hp
      obtain ⟨ob, hob, h⟩ := ws_spec h
      obtain ⟨cs, hcs, hsz, hle, h⟩ := ws_spec h
      have ep := S.ev p
      rw [hp] at ep
      obtain ⟨w', e1, S1⟩ := S.storeAt hob hcs hsz hle ep (S.ev x) (S.evLive x)
      unfold Oper.wp execOp
      rw [hop]
      have : ((do Instr.storeAt t (a.eval p) (a.eval x); pure Next.skip : Sem Next)).run C.P w = .ok .skip w' := by simp [e1]
      change o.upon C.P a next Q (((do Instr.storeAt t (a.eval p) (a.eval x); pure Next.skip : Sem Next)).run C.P w)
      rw [this]
      exact hk _ σ _ _ _ h (S1.put (by simp [RepT, Rep]) (by simp [T.ref]) hd)
    · exact h.elim
  · rename_i args argTypes hop
    obtain ⟨d, hdst, h⟩ := ws_spec h
    split at h
    · rename_i x y t t' hargs htys
      obtain ⟨rfl, hA⟩ := h
      have ha : args = #[x, y] := by rw [← Array.toArray_toList (xs := args), hargs]
      have ht : argTypes = #[t, t] := by rw [← Array.toArray_toList (xs := argTypes), htys]
      subst ha; subst ht
      unfold appT at hA
      obtain ⟨⟨e, size, bytes, zs⟩, hsl, hB⟩ := ws_spec hA
      simp only at hB
      obtain ⟨cs, hcs, h⟩ := ws_spec hB
      have ey := S.ev y
      have ex := S.ev x
      have run : ∀ v w', (Builtin.append_ #[t, t] o.type #[a.eval x, a.eval y]).run C.P w = .ok v w' → (execOp a.eval o).run C.P w = .ok (.value v) w' := fun v w' e => by
        unfold execOp; rw [hop]
        simp [resolve, invoke, builtin, e]
      split at h
      · rename_i hx
        obtain ⟨h1, h2, hkey, h⟩ := h
        rw [hx] at ex
        simp only [RepT, Rep] at ex
        obtain ⟨v, w', e1, S1⟩ := S.appendNil (ty := o.type) hsl hcs ey h1 h2 hkey
        exact fin v w' (run v w' (by rw [ex]; exact e1)) (hk _ σ _ _ _ h (by rw [hdst]; exact S1.rowPut (hd d hdst) v rfl rfl))
      · rename_i k hx
        rw [hx] at ex
        split at h
        · rename_i e' size' nn cells hob
          obtain ⟨rfl, rfl, h1, h2, hkey, h⟩ := h
          obtain ⟨v, w', e1, S1⟩ := S.appendGs (ty := o.type) hsl hob hcs ex ey h1 h2 hkey
          exact fin v w' (run v w' e1) (hk _ σ _ _ _ h (by rw [hdst]; exact S1.rowPut (hd d hdst) v rfl rfl))
        · exact h.elim
      · exact h.elim
    · exact h.elim
  · rename_i f args argTypes hop
    split at h
    · rename_i g fst cap hf
      obtain ⟨rfl, rfl, h⟩ := h
      have ef := S.ev f
      rw [hf] at ef
      simp only [RepT, Rep] at ef
      unfold Oper.wp execOp
      rw [hop]
      have harr : (args.toList.map a.eval).toArray = args.map a.eval := by rw [← Array.toArray_toList (xs := args.map _)]; simp
      have hrun : ((do let d ← resolve a.eval ⟨.value f, args, argTypes⟩ o.type; invoke d.target d.args : Sem Next)) = callFunc g (args.toList.map a.eval).toArray := by
        rw [harr]
        simp [resolve, ef, Deferred.ofValue, invoke]
      change o.upon C.P a next Q (((do let d ← resolve a.eval ⟨.value f, args, argTypes⟩ o.type; invoke d.target d.args : Sem Next)).run C.P w)
      rw [hrun]
      split at h
      · obtain ⟨s', hp, h⟩ := h
        obtain ⟨us, rfl, hl, hr⟩ := RepT_list S args.toList
        exact hp σ G a w _ S hl hr hd o next Q rfl (fun σ' G' a' w' S' => hk _ σ' G' a' w' h S')
      obtain ⟨ds, hds, r, hcall, h⟩ := ws_spec h
      have hargs := asDs_sound S args.toList ds hds
      have hFit : Fits C.E σ w := ⟨S.inv, fun g u hg => S.le _ _ _ (S.glob g u hg), S.hard, fun g t x hg => (S.gp g t x hg).2.of_eq (S.bel.block _ (S.gp g t x hg).1)⟩
      refine hcall σ w _ hFit hargs o a next Q (fun u w' hA => ?_)
      obtain ⟨σ', a1, a2, a3, a3', a4, a5⟩ := hA
      have S1 := S.after a1 a2 a3 a3' a4
      cases r with
      | data x =>
        simp only [resT] at h
        exact hk _ σ' _ _ _ h (S1.put (x := .d x) (u := u) a5 (by simp [T.ref]) hd)
      | own e size nn cells =>
        simp only [resT] at h
        obtain ⟨d, hdst, hkey, h⟩ := ws_spec h
        simp only [RepRes] at a5
        obtain ⟨n, us, b1, b2, b3, b4⟩ := a5
        have hgrown : w'.grownBy w' u.ownBlock := ⟨rfl, rfl, rfl, Nat.le_refl _, fun _ _ _ => rfl⟩
        have S2 := S1.fresh (g := (u.ownBlock, u)) (o := ⟨some (e, size, nn), cells.map .d⟩) hkey hgrown (fun b hb => ⟨Nat.le_trans S.size (b1.lt b hb).1, b3 b hb, fun k' o' hk' e' => by
            have := ((S.obj k' o' hk').block e').2
            have := (b1.lt b hb).1
            omega⟩) (by
            simp only [ObjIs, upd_same]
            refine ⟨n, us, ?_, (RepU.asT b2), trivial, fun h1 h2 => b4 h1 (by simpa using h2)⟩
            refine ⟨b1.1, ?_⟩
            rcases b1.2 with q | ⟨g', cap, cur, q1, q2, q3⟩
            · exact .inl q
            · exact .inr ⟨g', cap, cur, q1, Nat.le_trans S.size q2, q3⟩)
          (fun c hc j hj => by simp only [List.mem_map] at hc; obtain ⟨d, _, rfl⟩ := hc; simp [T.ref] at hj) (fun b hb => .inr hb)
        exact hk _ σ' _ _ _ h (by rw [hdst]; exact S2.rowPut (hd d hdst) u rfl rfl)
    · exact h.elim
  · rename_i op t x y t' hop
    split at h
    · rename_i hy
      obtain ⟨⟨⟨ms, f1⟩, f2, f3, f4⟩, c, ⟨p, q, hx, hyy, hc⟩, h⟩ := h
      simp only [isErrCmp, Bool.and_eq_true, beq_iff_eq] at hy
      obtain ⟨_, rfl⟩ := hy
      have ex := S.ev x
      have ey := S.ev y
      rw [hx] at ex; rw [hyy] at ey
      simp only [RepT, Rep] at ex ey
      obtain ⟨hE, hN⟩ := run_errs (w := w) (C := C) S f1 f2 f3 f4 hc
      rcases h with ⟨rfl, h⟩ | ⟨rfl, h⟩
      · refine fin (.bool c) w ?_ (hk _ σ _ _ _ h (S.put (by simp [RepT, Rep]) (by simp [T.ref]) hd))
        unfold execOp; rw [hop]
        exact lift _ _ _ (by rw [ex, ey]; exact hE)
      · refine fin (.bool !c) w ?_ (hk _ σ _ _ _ h (S.put (by simp [RepT, Rep]) (by simp [T.ref]) hd))
        unfold execOp; rw [hop]
        exact lift _ _ _ (by rw [ex, ey]; exact hN)
    · obtain ⟨r, hr, h⟩ := ws_spec h
      obtain ⟨u, h1, h2, h3⟩ := yld_sound S (o := o) (by rw [hop]; exact hr)
      exact fin u w h1 (hk _ σ _ _ _ h (S.put h2 h3 hd))
  · obtain ⟨r, hr, h⟩ := ws_spec h
    obtain ⟨u, h1, h2, h3⟩ := yld_sound S hr
    exact fin u w h1 (hk _ σ _ _ _ h (S.put h2 h3 hd))
end
end Go.Enc
