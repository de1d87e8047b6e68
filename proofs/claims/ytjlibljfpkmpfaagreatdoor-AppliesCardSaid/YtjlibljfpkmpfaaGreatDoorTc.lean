/-
  The table of operations, as the condition tells it, read as data.
-/
import Derived.Test.YtjlibljfpkmpfaaGreatDoorAq
import Derived.Test.YtjlibljfpkmpfaaGreatDoorTab
import Derived.Deep.SlicePairs
import Derived.WordedOn
set_option linter.unusedSimpArgs false
set_option maxRecDepth 100000
namespace Go.Enc
open Go.Proofs Go.RowKit Go.ChangeShapes Go.Deep

theorem trod_fn {H : Type} {enc : TypeId × Value → H} {P : Program} {w : World} {sp : Nat → Bool} {fuel : Nat} {t : TypeId} {v : Value} {x : DataW H × List MemPlace} {a : Array TypeId} {b : Array TypeId} {c : Bool} (ht : P.underlying t = some (.func a b c))
    (h : DataW.trod enc P w 0 sp true fuel t [v] = some x) : x = (.nil, []) ∨ x = (.held (enc (t, v)), []) := by
  cases fuel with
  | zero => simp [DataW.trod] at h
  | succ n =>
    unfold DataW.trod at h
    rw [ht] at h
    split at h <;> simp_all
theorem tok_fn {v : Value} {t : TypeId} {b : UInt8} {r : List UInt8} {s : String} {f : FuncId} (h : funcToken Tryz.prog (t, v) = b :: r) (hs : s.toUTF8.data.toList = b :: r) (hf : Tryz.prog.funcNamed s = some f) : v = .func (.func f) #[] #[] := by
  obtain ⟨g, fn, e1, e2, e3, e4⟩ := funcToken_tells h
  have : fn.name = s := bytes_inj (by rw [e4, hs])
  rw [this, hf] at e3
  cases e3
  exact e1
theorem str_val {s : ByteArray} {l : List UInt8} (h : s.data.toList = l) {t : ByteArray} (ht : t.data.toList = l) : s = t := ByteArray.ext (Array.toList_inj.mp (by rw [h, ht]))
/-- The rows of the table as the condition tells them. -/
def tabW (i : Nat) : DataW (List UInt8) := .agg [.lit (.string (tabN i).data.toList), .held (match i with
  | 0 => "(enclose/enclose.Interval).Add".toUTF8.data.toList
  | 1 => "(enclose/enclose.Interval).Sub".toUTF8.data.toList
  | 2 => "(enclose/enclose.Interval).Mul".toUTF8.data.toList
  | 3 => "(enclose/enclose.Interval).Div".toUTF8.data.toList
  | 4 => "(enclose/enclose.Interval).Meet".toUTF8.data.toList
  | _ => "enclose/enclose.table$1".toUTF8.data.toList)]
theorem table_reads {W : World} {l : List (String × DataW Unit)} {d : DataW Unit} (hl : laidMetH Tryz.prog l W) (hm : ("enclose/enclose.table", DataW.iface "func table" d) ∈ l) (hd : d.funcsOut = .slice [tabW 0, tabW 1, tabW 2, tabW 3, tabW 4, tabW 5] []) :
    ∃ u, W.cell? ⟨9, 0, none⟩ = some u ∧ (∀ t a, u ≠ .iface t (.pointer (some a))) ∧ Rep (fun b o => W.cell? ⟨b, o, none⟩) tabD u := by
  obtain ⟨g, t, cs, fuel, p, h1, h2, h3, h4⟩ := hl.funcs hm
  have eN : Tryz.prog.globalNamed "enclose/enclose.table" = some 9 := by kernel_rfl
  rw [eN] at h1
  cases h1
  have eT : (Tryz.prog.globals[9]?).map (·.type) = some 145 := by kernel_rfl
  rw [eT] at h2
  cases h2
  rw [hd] at h4
  have c0 := World.var?_cell eN h3 0
  have hO := open_slice_pairs Tryz.underlying145 Tryz.underlying148 (by kernel_rfl) (by rfl) (by rfl) (by kernel_rfl) (by kernel_rfl) h4
  rcases hO with ⟨_, h5⟩ | ⟨a, len, cap, m, n, V0, V1, D0, D1, P0, P1, hcs, _, hle, hcm, hmm, hx, hi⟩
  · cases (congrArg Prod.fst h5)
  have hx1 := congrArg Prod.fst hx
  simp only [DataW.slice.injEq] at hx1
  obtain ⟨hx1, hx2⟩ := hx1
  have hlen : len = 6 := by
    have := congrArg List.length hx1
    simpa using this.symm
  subst hlen
  have hm6 : 6 ≤ m := by rw [hmm]; split <;> omega
  have hrow : ∀ i, i < 6 → tabW i = .agg [D0 i, D1 i] := fun i hi6 => by
    have h6 : [tabW 0, tabW 1, tabW 2, tabW 3, tabW 4, tabW 5][i]? = some (tabW i) := by
      have : i = 0 ∨ i = 1 ∨ i = 2 ∨ i = 3 ∨ i = 4 ∨ i = 5 := by omega
      rcases this with rfl | rfl | rfl | rfl | rfl | rfl <;> rfl
    rw [hx1] at h6
    simp only [List.getElem?_map, List.getElem?_range hi6, Option.map_some, Option.some.injEq] at h6
    exact h6.symm
  have hv : ∀ i, i < 6 → V0 i = .string (tabN i) ∧ V1 i = .func (.func (tabF i)) #[] #[] := fun i hi6 => by
    obtain ⟨_, _, t0, t1⟩ := hi i (by omega)
    have hr := hrow i hi6
    simp only [tabW, DataW.agg.injEq, List.cons.injEq, and_true] at hr
    obtain ⟨r0, r1⟩ := hr
    obtain ⟨s, e1, e2, _⟩ := DataW.trod_string Tryz.underlying9 t0
    have e1 : V0 i = .string s := by simpa using e1
    have e3 := congrArg Prod.fst e2
    simp only at e3
    rw [← r0] at e3
    simp only [DataW.lit.injEq, Lit.string.injEq] at e3
    refine ⟨by rw [e1, str_val e3.symm rfl], ?_⟩
    have hfn := trod_fn Tryz.underlying146 t1
    rcases hfn with hfn | hfn
    · have := congrArg Prod.fst hfn
      simp only at this
      rw [← r1] at this
      cases this
    · have := congrArg Prod.fst hfn
      simp only at this
      rw [← r1] at this
      simp only [DataW.held.injEq] at this
      have hcase : i = 0 ∨ i = 1 ∨ i = 2 ∨ i = 3 ∨ i = 4 ∨ i = 5 := by omega
      rcases hcase with rfl | rfl | rfl | rfl | rfl | rfl
      · exact tok_fn (s := "(enclose/enclose.Interval).Add") (this.symm.trans (by rfl)) (by rfl) (by kernel_rfl)
      · exact tok_fn (s := "(enclose/enclose.Interval).Sub") (this.symm.trans (by rfl)) (by rfl) (by kernel_rfl)
      · exact tok_fn (s := "(enclose/enclose.Interval).Mul") (this.symm.trans (by rfl)) (by rfl) (by kernel_rfl)
      · exact tok_fn (s := "(enclose/enclose.Interval).Div") (this.symm.trans (by rfl)) (by rfl) (by kernel_rfl)
      · exact tok_fn (s := "(enclose/enclose.Interval).Meet") (this.symm.trans (by rfl)) (by rfl) (by kernel_rfl)
      · exact tok_fn (s := "enclose/enclose.table$1") (this.symm.trans (by rfl)) (by rfl) (by kernel_rfl)
  have hspot : a.spot = none := by
    have h0 := (hi 0 (by omega)).1
    simp only [Nat.zero_mul, Addr.add, if_true] at h0
    simp only [World.cell?] at h0
    cases hs : a.spot with
    | none => rfl
    | some q =>
      split at h0
      · rw [hs] at h0; simp at h0
      · cases h0
  obtain ⟨bl, off, spt⟩ := a
  simp only at hspot
  subst hspot
  have hcell : ∀ i, i < 6 → W.cell? ⟨bl, off + i * 2, none⟩ = some (.string (tabN i)) ∧ W.cell? ⟨bl, off + (i * 2 + 1), none⟩ = some (.func (.func (tabF i)) #[] #[]) := fun i hi6 => by
    obtain ⟨c1, c2, _, _⟩ := hi i (by omega)
    obtain ⟨v1, v2⟩ := hv i hi6
    rw [v1] at c1
    rw [v2] at c2
    constructor
    · rw [← c1]
      by_cases hz : i * 2 = 0
      · simp [Addr.add, hz]
      · simp [Addr.add, hz]
    · rw [← c2]
      simp [Addr.add]
  refine ⟨.slice (some ⟨bl, off, none⟩) 6 cap, ?_, (fun t a h => by cases h), ?_⟩
  · rw [c0]
    have : cs[0]? = cs.toList[0]? := by simp
    rw [this, hcs]; rfl
  · show Rep _ (.sl 2 tabC) _
    simp only [Rep]
    refine .inr (.inl ⟨bl, off, 6, cap, rfl, rfl, hle, hcm, ?_⟩)
    have c0 := hcell 0 (by omega)
    have c1 := hcell 1 (by omega)
    have c2 := hcell 2 (by omega)
    have c3 := hcell 3 (by omega)
    have c4 := hcell 4 (by omega)
    have c5 := hcell 5 (by omega)
    refine RepC.of_values (us := [.string (tabN 0), .func (.func (tabF 0)) #[] #[], .string (tabN 1), .func (.func (tabF 1)) #[] #[], .string (tabN 2), .func (.func (tabF 2)) #[] #[], .string (tabN 3), .func (.func (tabF 3)) #[] #[], .string (tabN 4), .func (.func (tabF 4)) #[] #[], .string (tabN 5), .func (.func (tabF 5)) #[] #[]]) ?_ (fun j u hj => ?_)
    · simp only [tabC, RepU, Rep]
      exact ⟨_, _, rfl, rfl, rfl, _, _, rfl, rfl, rfl, _, _, rfl, rfl, rfl, _, _, rfl, rfl, rfl, _, _, rfl, rfl, rfl, _, _, rfl, rfl, rfl, _, _, rfl, rfl, rfl, _, _, rfl, rfl, rfl, _, _, rfl, rfl, rfl, _, _, rfl, rfl, rfl, _, _, rfl, rfl, rfl, _, _, rfl, rfl, rfl, rfl⟩
    · have hj12 : j < 12 := by
        rcases Nat.lt_or_ge j 12 with h | h
        · exact h
        · rw [List.getElem?_eq_none (by simpa using h)] at hj; cases hj
      have hcase : j = 0 ∨ j = 1 ∨ j = 2 ∨ j = 3 ∨ j = 4 ∨ j = 5 ∨ j = 6 ∨ j = 7 ∨ j = 8 ∨ j = 9 ∨ j = 10 ∨ j = 11 := by omega
      rcases hcase with rfl | rfl | rfl | rfl | rfl | rfl | rfl | rfl | rfl | rfl | rfl | rfl <;> (rw [← hj])
      · exact c0.1
      · exact c0.2
      · exact c1.1
      · exact c1.2
      · exact c2.1
      · exact c2.2
      · exact c3.1
      · exact c3.2
      · exact c4.1
      · exact c4.2
      · exact c5.1
      · exact c5.2
end Go.Enc
