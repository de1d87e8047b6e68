/-
  Balances: one step answers true.
-/
import Derived.Test.YtjlibljfpkmpfaaDoorBa
set_option linter.unusedSimpArgs false
set_option maxRecDepth 100000
namespace Go.Enc
open Go.Proofs Go.Enc.Fl Go.RowKit

/-- As an interval has it. -/
def pos2 (X : Nat × Nat) : Nat × Nat := (posB X.1, posB X.2)
theorem Wb.pos2 {x : Nat × Nat} {z : Int} (w : Wb x z) : Gd (pos2 x) ∧ iL (pos2 x) = (z : Rat) ∧ iH (pos2 x) = (z : Rat) := by
  have g := w.g
  refine ⟨⟨posB_lt g.l1, posB_lt g.l2, posB_plain g.p1, posB_plain g.p2, by show idx (posB x.1) ≤ idx (posB x.2); simp only [posB_idx]; exact g.le, posB_pos _, posB_pos _⟩, ?_, ?_⟩
  · show v (idx (posB x.1)) = _
    rw [posB_idx]; exact w.e1
  · show v (idx (posB x.2)) = _
    rw [posB_idx]; exact w.e2
/-- A row's numbers, the last one its right side. -/
def bA (o : OpD) (i j : Nat) : Int := if j = bN o then bT o i (bN o) else bK o i j
theorem bA_le (o : OpD) {i : Nat} (hi : i < bN o) (j : Nat) : -131072 ≤ bA o i j ∧ bA o i j ≤ 131072 := by
  have hb := bN_le o
  have h1 := bT_le o (i := i) (by omega) (bN o)
  have h2 := bK_le o (i := i) (by omega) j
  unfold bA
  split <;> omega
theorem lw_int (z : Int) : Lw 30 (z : Rat) := by
  have e : (2 : Rat) ^ (-30 : Int) ≤ 1 := by decide +kernel
  unfold Lw
  rcases Int.lt_trichotomy z 0 with h | h | h
  · right; right
    have : (z : Rat) ≤ ((-1 : Int) : Rat) := Rat.intCast_le_intCast.2 (by omega)
    rw [show ((-1 : Int) : Rat) = -1 from rfl] at this
    grind
  · subst h; exact .inl rfl
  · right; left
    have : ((1 : Int) : Rat) ≤ (z : Rat) := Rat.intCast_le_intCast.2 (by omega)
    rw [show ((1 : Int) : Rat) = 1 from rfl] at this
    grind
theorem am_int (z : Int) : am (z : Rat) = ((z.natAbs : Int) : Rat) := by
  unfold am
  rcases Int.lt_or_le z 0 with h | h
  · have h1 : (z : Rat) < ((0 : Int) : Rat) := Rat.intCast_lt_intCast.2 h
    rw [show ((0 : Int) : Rat) = 0 from rfl] at h1
    rw [if_neg (by grind), ← Rat.intCast_neg]
    congr 1
    omega
  · have h1 : ((0 : Int) : Rat) ≤ (z : Rat) := Rat.intCast_le_intCast.2 h
    rw [show ((0 : Int) : Rat) = 0 from rfl] at h1
    rw [if_pos h1]
    congr 1
    omega
theorem am_int_le {z : Int} {m : Int} (h1 : -m ≤ z) (h2 : z ≤ m) : am (z : Rat) ≤ (m : Rat) := by
  rw [am_int]
  exact Rat.intCast_le_intCast.2 (by omega)
section
variable (o : OpD)
theorem sat_b {i : Nat} : ∀ m, smR (fun j => (bK o i j : Rat) * (bX o j : Rat)) m = ((bT o i m : Int) : Rat)
  | 0 => rfl
  | m + 1 => by
    simp only [smR, bT]
    rw [sat_b m, Rat.intCast_add, Rat.intCast_mul]
theorem sat_a {i : Nat} (hi : i < bN o) : SatR (fun i j => (bA o i j : Rat)) (fun j => (bX o j : Rat)) (bN o) i := by
  unfold SatR
  have e : bA o i (bN o) = bT o i (bN o) := by unfold bA; rw [if_pos rfl]
  simp only [e]
  rw [← sat_b o (bN o)]
  exact smR_congr fun j hj => by
    have : bA o i j = bK o i j := by unfold bA; rw [if_neg (by omega)]
    rw [this]
theorem heavy_b : Heavy (fun i j => (bA o i j : Rat)) (bN o) := fun i hi => by
  have hb := bN_le o
  have ek : bA o i i = bK o i i := by unfold bA; rw [if_neg (by omega)]
  have kd : bK o i i ≤ -100 ∨ 100 ≤ bK o i i := by
    unfold bK
    rw [if_pos rfl]
    split <;> omega
  have ka : (100 : Rat) ≤ am ((bK o i i : Int) : Rat) := by
    rw [am_int]
    exact (Rat.intCast_le_intCast (a := 100)).2 (by omega)
  have off : offR (fun i j => am ((bA o i j : Int) : Rat)) 0 (bN o) i ≤ smR (fun j => if j = i then 0 else 8) (bN o) := smR_le fun j hj => by
    by_cases h : j = i
    · rw [if_neg (fun z => z.2 h), if_pos h]; exact Rat.le_refl
    · rw [if_pos ⟨Nat.zero_le _, h⟩, if_neg h]
      have e : bA o i j = bK o i j := by unfold bA; rw [if_neg (by omega)]
      show am ((bA o i j : Int) : Rat) ≤ 8
      rw [e]
      have kb : -8 ≤ bK o i j ∧ bK o i j ≤ 8 := by
        unfold bK
        rw [if_neg (fun z => h z.symm)]
        have := sm4_range (o.a.fdiv (2 ^ min (3 * (i + j)) 64))
        omega
      exact am_int_le kb.1 kb.2
  have s24 : ∀ n, n ≤ 4 → i < n → smR (fun j => if j = i then (0 : Rat) else 8) n ≤ 24 := fun n hn hin => by
    rcases (show n = 1 ∨ n = 2 ∨ n = 3 ∨ n = 4 by omega) with rfl | rfl | rfl | rfl
    · obtain rfl : i = 0 := by omega
      decide +kernel
    · rcases (show i = 0 ∨ i = 1 by omega) with rfl | rfl <;> decide +kernel
    · rcases (show i = 0 ∨ i = 1 ∨ i = 2 by omega) with rfl | rfl | rfl <;> decide +kernel
    · rcases (show i = 0 ∨ i = 1 ∨ i = 2 ∨ i = 3 by omega) with rfl | rfl | rfl | rfl <;> decide +kernel
  have := s24 (bN o) hb.2 hi
  simp only [ek]
  refine ⟨?_, by grind⟩
  intro h
  have : bK o i i = 0 := by exact_mod_cast h
  omega
variable {E : Nat → Option Value} {q : Nat → Addr}
theorem aL_get (W : Int → Nat × Nat) {i j : Nat} (hi : i < bN o) (hj : j < bN o) : (aL o W (bN o * bN o)).getD (i * bN o + j) (0, 0) = W (bK o i j) := by
  have hlt : i * bN o + j < bN o * bN o := by
    have : (i + 1) * bN o ≤ bN o * bN o := Nat.mul_le_mul_right _ (by omega)
    rw [Nat.add_mul, Nat.one_mul] at this
    omega
  have e1 : (i * bN o + j) / bN o = i := by rw [Nat.mul_comm, Nat.mul_add_div (by omega), Nat.div_eq_of_lt hj, Nat.add_zero]
  have e2 : (i * bN o + j) % bN o = j := by rw [Nat.add_comm, Nat.add_mul_mod_self_right, Nat.mod_eq_of_lt hj]
  rw [List.getD_eq_getElem?_getD]
  unfold aL
  rw [List.getElem?_map, List.getElem?_range hlt]
  simp only [Option.map_some, Option.getD_some, e1, e2]
theorem rL_get (W : Int → Nat × Nat) {i : Nat} (hi : i < bN o) : (rL o W (bN o)).getD i (0, 0) = W (bT o i (bN o)) := by
  rw [List.getD_eq_getElem?_getD]
  unfold rL
  rw [List.getElem?_map, List.getElem?_range hi]
  rfl
set_option maxHeartbeats 1000000 in
theorem balances_c (hq : Sent E q) : DCall Tryd.prog E 10 [opD o] (.data (bD true)) := by
  obtain ⟨W, hW⟩ := wbox_fun E
  obtain ⟨M, V, S, O⟩ := ops3 hq
  have hb := bN_le o
  have hbox : ∀ i j, i < bN o → Wb (W (bA o i j)) (bA o i j) := fun i j hi => by
    have := bA_le o hi j
    exact (hW.w _ (by omega) (by omega)).1
  have mem : ∀ X, X ∈ aL o W (bN o * bN o) ∨ X ∈ rL o W (bN o) → ∃ z, Wb X z := fun X hX => by
    rcases hX with hX | hX
    · simp only [aL, List.mem_map, List.mem_range] at hX
      obtain ⟨r, hr, rfl⟩ := hX
      have hi : r / bN o < bN o := Nat.div_lt_of_lt_mul hr
      have := bK_le o (i := r / bN o) (by omega) (r % bN o)
      exact ⟨_, (hW.w _ (by omega) (by omega)).1⟩
    · simp only [rL, List.mem_map, List.mem_range] at hX
      obtain ⟨i, hi, rfl⟩ := hX
      have := bT_le o (i := i) (by omega) (bN o)
      exact ⟨_, (hW.w _ (by omega) (by omega)).1⟩
  have hlen : bN o * bN o ≤ 16 := Nat.mul_le_mul hb.2 hb.2
  have ps := psolve_c (E := E) (q := q) (F := pos2) (L := aL o W (bN o * bN o)) (L' := rL o W (bN o)) hq O (by rw [aL_len]; omega) (by rw [rL_len]; omega) (w := (bN o : Int)) (by omega) (fun X hX => by
    obtain ⟨z, hz⟩ := mem X hX
    exact made_gw hq hz.g) (fun X hX => by
    obtain ⟨z, hz⟩ := mem X hX
    exact hz.pos2.1)
  rw [Int.toNat_natCast, rL_len] at ps
  obtain ⟨aa, haa⟩ : ∃ aa, psA pos2 (aL o W (bN o * bN o)) (bN o) = aa := ⟨_, rfl⟩
  obtain ⟨bb, hbb⟩ : ∃ bb : Nat → Nat × Nat, (fun i => pos2 ((rL o W (bN o)).getD i (0, 0))) = bb := ⟨_, rfl⟩
  have hm : psM (aL o W (bN o * bN o)) (bN o : Int) = bN o := by
    unfold psM
    rw [aL_len, if_neg (by omega), Int.toNat_natCast]
    rcases (show bN o = 1 ∨ bN o = 2 ∨ bN o = 3 ∨ bN o = 4 by omega) with e | e | e | e <;> rw [e] <;> rfl
  have hn : ∀ i, i < bN o → psN (aL o W (bN o * bN o)) (bN o) i = bN o := fun i hi => psN_lt (by rw [aL_len]; exact Nat.mul_le_mul_right _ (by omega))
  have hA : ∀ i j, i < bN o → j ≤ bN o → augB aa bb (bN o) i j = pos2 (W (bA o i j)) := fun i j hi hj => by
    unfold augB bA
    by_cases h : j = bN o
    · rw [if_pos h, if_pos h, ← hbb]
      simp only
      rw [rL_get o W hi]
    · rw [if_neg h, if_neg h, ← haa]
      unfold psA
      rw [aL_get o W hi (by omega)]
  have hG : ∀ i j, i < bN o → j ≤ bN o → Gd (augB aa bb (bN o) i j) := fun i j hi hj => by rw [hA i j hi hj]; exact (hbox i j hi).pos2.1
  have P : Pts (augB aa bb (bN o)) (fun i j => (bA o i j : Rat)) (bN o) := by
    refine ⟨hG, fun i j hi hj => ?_, fun i j hi hj => lw_int _, fun i j hi hj => ?_⟩
    · rw [hA i j hi hj]; exact (hbox i j hi).pos2.2
    · have := bA_le o hi j
      refine Rat.le_trans (am_int_le this.1 this.2) ?_
      exact (Rat.intCast_le_intCast (a := 131072) (b := 1073741824)).2 (by omega)
  obtain ⟨out, hout⟩ := heavy_some O P (heavy_b o) hb.1 hb.2
  obtain ⟨hw, hgd⟩ := solS_wi O hG (a := fun i j => (bA o i j : Rat)) (x := fun j => (bX o j : Rat)) (fun i j hi hj => by
    have := P.eq i j hi hj
    exact ⟨by rw [this.1]; exact Rat.le_refl, by rw [this.2]; exact Rat.le_refl⟩) (fun i hi => sat_a o hi) hout
  have hfair : fairR (augB aa bb (bN o)) (bN o + 1) (bN o) = true := fairR_iff.2 fun r j hr hj => by
    have e30 : (2 : Rat) ^ (30 : Int) = 1073741824 := by decide +kernel
    have h1 := P.eq r j hr (by omega)
    have h2 := P.lw r j hr (by omega)
    have h3 := P.le r j hr (by omega)
    have key : ∀ b, v (idx b) = ((bA o r j : Int) : Rat) → fairO b = true := fun b hv => (fairO_v b).2 (by
      rw [hv]
      by_cases hz : ((bA o r j : Int) : Rat) = 0
      · exact .inl hz
      · exact .inr ⟨Lw.am_ge h2 hz, by rw [e30]; exact h3⟩)
    exact (fairB_v _).2 ⟨key _ h1.1, key _ h1.2⟩
  have hS : solN M V S aa (psN (aL o W (bN o * bN o)) (bN o)) (psM (aL o W (bN o * bN o)) (bN o : Int)) bb (bN o) = (some out, 0) := by
    unfold solN
    rw [hm, if_neg (by
      rintro (h | h | h | h)
      · omega
      · omega
      · exact h rfl
      · exact h hn), if_neg (by rw [hfair]; simp), hout]
  rw [haa, hbb, hS] at ps
  simp only [psR] at ps
  refine dcall_w Tryd.func10 rfl (by kernel_rfl) Tryd.ntmps10 (by simp) (rs := [.tmp 2]) rfl (fun C hP hE hn hk => ?_)
  refine dwp_cut 4 (by rw [hn]; kernel_rfl) (bal_1 o hP hE hn hk rfl) ?_
  refine dwp_cut 2 (by rw [hn]; kernel_rfl) (bal_2 o hW hP hE hn hk rfl) ?_
  refine dwp_of (by rw [hn]; kernel_rfl) (bal_3 o (L := (List.range (bN o)).map out) (by simp) ps (fun i Y hY => ?_) hP hE hn hk rfl)
  rw [List.getElem?_map] at hY
  cases hr : (List.range (bN o))[i]? with
  | none => rw [hr] at hY; cases hY
  | some x =>
    have hx := List.getElem?_range (n := bN o) (i := i)
    have hi : i < bN o := by
      rcases Nat.lt_or_ge i (bN o) with g | g
      · exact g
      · rw [List.getElem?_eq_none (by simpa using g)] at hr; cases hr
    rw [hx hi] at hr
    cases hr
    rw [hx hi] at hY
    cases hY
    have xl := bX_le o i
    have w := hw i hi
    exact lholds_c E (hgd i) (by omega) w.1 w.2
end
theorem all_balances {E : Nat → Option Value} {ops : List OpD} (hl : ops.length ≤ maxLen) (hp : ∀ o ∈ ops, DCall Tryd.prog E 10 [opD o] (.data (bD true))) :
    DCall Tryd.prog E 6 [scD ops] (.data (bD true)) := by
  refine dcall_of Tryd.func6 rfl (by kernel_rfl) Tryd.ntmps6 (by kernel_rfl) (by simp) (rs := [.tmp 2]) rfl ?_
  rintro ⟨P, E, σ0, w0, base, n, kb, df, G0⟩ rfl rfl rfl rfl
  have hmax : maxLen = 9223372036854775807 := by decide
  simp -implicitDefEqProofs only [go_sem]
  rw [stop_eq]
  refine dwp_loop (α := {i : Nat // i ≤ ops.length}) (fun i => St.of [(0, .d (scD ops)), (2, .d (bD false)), (3, .d (intD i.1))] []) (fun i => ops.length - i.1)
    ⟨0, Nat.zero_le _⟩ (weak_of ?_ ?_ rfl) (by kernel_rfl) (fun i => ?_)
  · simp -implicitDefEqProofs only [go_sem]
  · simp -implicitDefEqProofs only [go_sem]
  · obtain ⟨i, hi0⟩ := i
    by_cases hA : i < ops.length
    · obtain ⟨o, ho⟩ : ∃ o, ops[i]? = some o := ⟨ops[i], by simp [hA]⟩
      have hm := List.mem_of_getElem? ho
      have eA : decide ((i : Int) < (ops.length : Int)) = true := tD (by omega)
      by_cases hB : i < 1152921504606846976
      · have eB : decide ((i : Int) < 1152921504606846976) = true := tD (by omega)
        have w1 : IntKind.i64.wrap ((i : Int) + 1) = ((i + 1 : Nat) : Int) := addN1 (by omega)
        have hin : i * 9 < ops.length * 9 := by omega
        have hin2 : i * 9 + 9 ≤ ops.length * 9 := by omega
        have fin : ∃ x' : {i : Nat // i ≤ ops.length}, x'.1 = i + 1 := ⟨⟨i + 1, hA⟩, rfl⟩
        have hpl := hp o hm
        simp -implicitDefEqProofs only [go_sem, eA, eB, flat_len, div9, hin, hin2, flat_at ho, OpD.cells, iD, uD]
        refine Call.intro hpl ?_
        simp -implicitDefEqProofs only [go_sem, w1, Bool.not_true]
        obtain ⟨x', hx'⟩ := fin
        refine ⟨x', weak_of ?_ ?_ rfl, by simp only [hx']; omega⟩
        · simp -implicitDefEqProofs only [go_sem, hx']
        · simp -implicitDefEqProofs only [go_sem]
      · have eB : decide ((i : Int) < 1152921504606846976) = false := fD (by omega)
        simp -implicitDefEqProofs only [go_sem, eA, eB, flat_len, div9, finK]
    · have eA : decide ((i : Int) < (ops.length : Int)) = false := fD (by omega)
      simp -implicitDefEqProofs only [go_sem, eA, flat_len, div9, finK]
end Go.Enc
