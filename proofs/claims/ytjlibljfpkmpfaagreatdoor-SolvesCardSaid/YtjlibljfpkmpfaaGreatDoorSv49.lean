/-
  A step of the law Solves answers true.
  A world that meets the condition, the table of functions in it; an operation's step read.
-/
import Derived.Test.YtjlibljfpkmpfaaGreatDoorSv48
import Derived.Test.YtjlibljfpkmpfaaGreatDoorSv19
import Derived.Test.YtjlibljfpkmpfaaGreatDoorRows
import Derived.LaidHandle
section
set_option linter.unusedSimpArgs false
set_option maxRecDepth 100000
namespace Go.Enc
open Go.Proofs Go.Enc.Dg Go.Enc.Nu Go.Enc.Fl Go.RowKit
theorem val_chN {X : Nat × Nat} (g : Gd X) (p : Int) : Wi (val (chN (loN X) (hiN X) p)) X := by
  have vl := val_lo g
  have vh := val_hi g
  have hle := g.iLH
  unfold chN Wi
  split
  · rw [vl]; exact ⟨Rat.le_refl, hle⟩
  · split
    · rw [vh]; exact ⟨hle, Rat.le_refl⟩
    · obtain ⟨s, hs⟩ : ∃ s, nsum (loN X) (hiN X) = s := ⟨_, rfl⟩
      have vs := val_nsum (loN X) (hiN X)
      rw [hs, vl, vh] at vs
      have e : val ⟨s.neg, s.n, s.e - 1⟩ * 2 = val s := by
        have h : (2 : Rat) ^ s.e = 2 ^ (s.e - 1) * 2 := by
          have := zpow2_add (s.e - 1) 1
          have e1 : (2 : Rat) ^ (1 : Int) = 2 := by decide +kernel
          rw [e1, show s.e - 1 + 1 = s.e by omega] at this
          exact this
        unfold val
        simp only
        rw [h]
        split <;> grind
      rw [hs]
      exact ⟨by grind, by grind⟩
section
variable {E : Nat → Option Value} {M V S : Nat × Nat → Nat × Nat → AnsQ} (O : Ops3 E M V S) {A B : Nat → Nat × Nat} {G : Nat → Nat → Nat × Nat} {n : Nat}
include O
/-- What the judge asks of a number holds. -/
theorem held_law (h4 : n ≤ 4) (hG : ∀ i j, i < n → j ≤ n → Gd (G i j)) (hA : ∀ i j, i < n → j < n → G i j = A (n * i + j)) (hB : ∀ i, i < n → G i n = B i) {out : Nat → Nat × Nat} (h : solS M V S G n = some out) (p : Int) :
    nsign (detN n (cN A n p)) ≠ 0 ∧ ∀ O' : Nat → Nat × Nat, (∀ i, i < n → O' i = out i) → ∀ i, i < n → HeldI A B n p O' i := by
  obtain ⟨a, ha⟩ : ∃ a : Nat → Nat → Rat, (fun i j => if j = n then val (cB B p i) else val (cN A n p i j)) = a := ⟨_, rfl⟩
  have an : ∀ i, a i n = val (cB B p i) := fun i => by rw [← ha]; exact if_pos rfl
  have aj : ∀ i j, j < n → a i j = val (cN A n p i j) := fun i j hj => by rw [← ha]; exact if_neg (by omega)
  have hw : ∀ i j, i < n → j ≤ n → Wi (a i j) (G i j) := fun i j hi hj => by
    by_cases g : j = n
    · subst g
      rw [an, hB i hi]
      exact val_chN (by rw [← hB i hi]; exact hG i j hi (Nat.le_refl _)) _
    · rw [aj i j (by omega), hA i j hi (by omega)]
      exact val_chN (by rw [← hA i j hi (by omega)]; exact hG i j hi hj) _
  have hd := solS_det O h4 hG hw h
  have ed : val (detN n (cN A n p)) = detR n a := by rw [val_det]; exact detR_congr fun i j _ hj => (aj i j hj).symm
  have gd := (solS_wi O hG hw (cram_sat h4 hd) h).2
  refine ⟨fun h0 => hd (by rw [← ed]; exact (val_sign _).2.1.1 h0), fun O' hO i hi => ?_⟩
  have cr := solS_cram O h4 hG hw h hi
  have ex : val (detN n (rpN (cN A n p) (cB B p) i)) = detR n (repC a (fun i => a i n) i) := by
    rw [val_det]
    refine detR_congr fun r k _ hk => ?_
    unfold rpN repC
    by_cases g : k = i
    · rw [if_pos (by omega), if_pos g]
      exact (an r).symm
    · rw [if_neg (by omega), if_neg g, aj r k hk]
  have gO := gd i
  have vl := val_lo gO
  have vh := val_hi gO
  obtain ⟨x, hx⟩ : ∃ x, detR n (repC a (fun i => a i n) i) = x := ⟨_, rfl⟩
  obtain ⟨d, hde⟩ : ∃ d, detR n a = d := ⟨_, rfl⟩
  rw [hx] at ex
  rw [hde] at ed hd
  rw [hx, hde] at cr
  unfold Wi at cr
  have hxd : x / d * d = x := by rw [Rat.div_def, Rat.mul_assoc, Rat.mul_comm d⁻¹, Rat.mul_inv_cancel _ hd, Rat.mul_one]
  obtain ⟨y, hy⟩ : ∃ y, x / d = y := ⟨_, rfl⟩
  rw [hy] at cr hxd
  have sg := (val_sign (detN n (cN A n p))).1
  rw [ed] at sg
  unfold HeldI
  rw [hO i hi]
  simp only [nless_iff, val_nprod, ex, ed, vl, vh]
  refine ⟨fun hn => ?_, fun hn => ?_⟩
  · have hneg := sg.1 hn
    have m1 := Rat.mul_le_mul_of_nonneg_right cr.1 (show 0 ≤ -d by grind)
    have m2 := Rat.mul_le_mul_of_nonneg_right cr.2 (show 0 ≤ -d by grind)
    exact ⟨decide_eq_false (by grind), decide_eq_false (by grind)⟩
  · have hpos : ¬ d < 0 := fun g => hn (sg.2 g)
    have m1 := Rat.mul_le_mul_of_nonneg_right cr.1 (show 0 ≤ d by grind)
    have m2 := Rat.mul_le_mul_of_nonneg_right cr.2 (show 0 ≤ d by grind)
    exact ⟨decide_eq_false (by grind), decide_eq_false (by grind)⟩
omit O in
/-- Where there must be an answer, the system is heavy. -/
theorem sure_heavy (h1 : 1 ≤ n) (hG : ∀ i j, i < n → j ≤ n → Gd (G i j)) (hA : ∀ i j, i < n → j < n → G i j = A (n * i + j)) (hB : ∀ i, i < n → G i n = B i) (hf : fairR G (n + 1) n = true) (hs : sureB A B n = true) :
    Pts G (fun i j => iL (G i j)) n ∧ Heavy (fun i j => iL (G i j)) n := by
  have hr := (sureB_iff A B n).1 hs
  refine ⟨pts_of hG hf fun i j hi hj => ⟨rfl, ?_⟩, fun i hi => ?_⟩
  · have e : (G i j).1 = (G i j).2 := by
      by_cases g : j = n
      · subst g
        rw [hB i hi]
        exact (hr i hi).1
      · rw [hA i j hi (by omega)]
        exact (hr i hi).2.1 j (by omega)
    unfold iH iL
    rw [e]
  · obtain ⟨_, _, g1, g2⟩ := hr i hi
    have va : ∀ j, j < n → val (amA A n i j) = am (iL (G i j)) := fun j hj => by
      unfold amA
      rw [val_nam, val_lo (by rw [← hA i j hi hj]; exact hG i j hi (by omega)), hA i j hi hj]
    rw [nless_iff, val_e2N, val_offN, va i hi] at g1
    have g3 := of_decide_eq_false g1
    have hne : val (amA A n i i) ≠ 0 := fun h0 => g2 ((val_sign _).2.1.2 h0)
    rw [va i hi] at hne
    have eo : offR (fun i j => am (iL (G i j))) 0 n i = smR (fun j => if j ≠ i then val (amA A n i j) else 0) n := smR_congr fun j hj => by
      by_cases g : j ≠ i
      · rw [if_pos ⟨Nat.zero_le _, g⟩, if_pos g, va j hj]
      · rw [if_neg (fun z => g z.2), if_neg g]
    refine ⟨fun h0 => hne (by
      have h0' : iL (G i i) = 0 := h0
      rw [h0']; unfold am; rw [if_pos Rat.le_refl]), ?_⟩
    rw [eo]
    grind
end
section
variable {E : Nat → Option Value} {q : Nat → Addr}
theorem boxL_bits {o : OpD} (hw : o.Wf) : Bits (boxL o.p) := fun X hX => by
  unfold boxL at hX
  simp only [List.mem_map, List.mem_range] at hX
  obtain ⟨i, hi, rfl⟩ := hX
  have get : ∀ k, k < o.p.length → o.p.getD k 0 < 18446744073709551616 := fun k hk => by
    rw [List.getD_eq_getElem?_getD, List.getElem?_eq_getElem hk]
    exact hw.p _ (List.getElem_mem hk)
  exact ⟨get _ (by omega), get _ (by omega)⟩
theorem normL_getD {L : List (Nat × Nat)} {i : Nat} (h : i < L.length) : (normL L).getD i (0, 0) = mk2 (L.getD i (0, 0)) := by
  unfold normL
  rw [List.getD_eq_getElem?_getD, List.getD_eq_getElem?_getD, List.getElem?_map, List.getElem?_eq_getElem h]
  rfl
set_option maxHeartbeats 1000000 in
theorem solved_c (hq : Sent E q) {o : OpD} (hw : o.Wf) (hp : o.p.length * 8 ≤ 140737488355328) : DCall Tryz.prog E 29 [opD o] (.data (bD true)) := by
  obtain ⟨M, V, S, O⟩ := ops3 hq
  have bL := boxL_bits hw
  have k25 := soK_le o
  have kle : soK o ≤ o.p.length / 2 := by unfold soK; omega
  obtain ⟨LA, hLA⟩ : ∃ LA, soA o = LA := ⟨_, rfl⟩
  obtain ⟨LB, hLB⟩ : ∃ LB, soB o = LB := ⟨_, rfl⟩
  have la : LA.length = soK o := by rw [← hLA, List.length_take, boxL_len]; omega
  have lb : LB.length ≤ o.p.length / 2 := by rw [← hLB, List.length_drop, boxL_len]; omega
  have bA : Bits LA := fun X hX => bL X (by rw [← hLA] at hX; exact List.mem_of_mem_take hX)
  have bB : Bits LB := fun X hX => bL X (by rw [← hLB] at hX; exact List.mem_of_mem_drop hX)
  obtain ⟨w, hwe⟩ : ∃ w, soW o = w := ⟨_, rfl⟩
  have wle : 0 ≤ w ∧ w ≤ 5 := by
    have := soN_le o
    rw [← hwe]
    unfold soW
    split <;> omega
  have hbits : ∀ X, X ∈ LA ∨ X ∈ LB → X.1 < 18446744073709551616 ∧ X.2 < 18446744073709551616 := fun X hX => by
    rcases hX with h | h
    · exact bA X h
    · exact bB X h
  have ps := psolve_c (E := E) (q := q) (F := mk2) (L := LA) (L' := LB) hq O (by omega) (by omega) (w := w) (by omega) (fun X hX => pmade_c hq (hbits X hX).1 (hbits X hX).2) (fun X hX => mk2_gd (hbits X hX).1 (hbits X hX).2)
  obtain ⟨n, hn⟩ : ∃ n, LB.length = n := ⟨_, rfl⟩
  obtain ⟨aa, haa⟩ : ∃ aa, psA mk2 LA w.toNat = aa := ⟨_, rfl⟩
  obtain ⟨bb, hbb⟩ : ∃ bb : Nat → Nat × Nat, (fun i => mk2 (LB.getD i (0, 0))) = bb := ⟨_, rfl⟩
  rw [hn, haa, hbb] at ps
  have fin : ∀ {y1 : D} {e : Int}, DCall Tryz.prog E 72 [.sl 2 (boxC LA), intD w, .sl 2 (boxC LB)] (.data (.tup [y1, intD e])) → DCall Tryz.prog E 74 [y1] (.data y1) → DCall Tryz.prog E 28 [y1, y1, intD 0] (.data (bD true)) →
      DCall Tryz.prog E 75 [.sl 2 (boxC LA), intD w, .sl 2 (boxC LB), y1, intD e, intD (soP o)] (.data (bD true)) → DCall Tryz.prog E 29 [opD o] (.data (bD true)) := fun {y1 e} h1 h2 h3 h4 => by
    rw [← hLA, ← hLB, ← hwe] at h1 h4
    refine dcall_w Tryz.func29 rfl (by kernel_rfl) Tryz.ntmps29 (by simp) (rs := [.tmp 2]) rfl (fun C hP hE hn hk => ?_)
    refine dwp_cut 4 (by rw [hn]; kernel_rfl) (solv_1 o hp hP hE hn hk rfl) ?_
    refine dwp_cut 2 (by rw [hn]; kernel_rfl) (solv_2 (E := E) o hP hE hn hk rfl) ?_
    refine dwp_cut 2 (by rw [hn]; kernel_rfl) (solv_3 (E := E) o hP hE hn hk rfl) ?_
    exact dwp_of (by rw [hn]; kernel_rfl) (solv_4 o hp (y2 := y1) h1 h2 h3 h4 hP hE hn hk rfl)
  have lA6 : LA.length ≤ 1000000 := by omega
  have lB6 : LB.length * 16 ≤ 140737488355328 := by omega
  by_cases hsh : shapB LA.length w n = true
  · have hnot := shape_iff.2 hsh
    have hsh' : shapB LA.length w LB.length = true := by rw [hn]; exact hsh
    have hdat := hsh
    unfold shapB at hdat
    rw [decide_eq_true_eq] at hdat
    obtain ⟨n1, n4, w1, hcase⟩ := hdat
    have lAn : LA.length = n * n := by
      rcases hcase with ⟨h1, h2⟩ | ⟨_, _, h2⟩
      · rw [h2, h1]
      · exact h2
    have hidx : ∀ i j, i < n → j < n → i * w.toNat + j = n * i + j := fun i j hi hj => by
      rcases hcase with ⟨h1, h2⟩ | ⟨_, h1, _⟩
      · obtain rfl : i = 0 := by omega
        omega
      · rw [h1, Int.toNat_natCast, Nat.mul_comm]
    have hlt : ∀ i j, i < n → j < n → n * i + j < LA.length := fun i j hi hj => by
      have : n * i + n ≤ n * n := by rw [← Nat.mul_succ]; exact Nat.mul_le_mul_left _ hi
      omega
    obtain ⟨NA, hNA⟩ : ∃ NA : Nat → Nat × Nat, (fun i => (normL LA).getD i (0, 0)) = NA := ⟨_, rfl⟩
    obtain ⟨NB, hNB⟩ : ∃ NB : Nat → Nat × Nat, (fun i => (normL LB).getD i (0, 0)) = NB := ⟨_, rfl⟩
    have eA : ∀ i j, i < n → j < n → augB aa bb n i j = NA (n * i + j) := fun i j hi hj => by
      unfold augB
      rw [if_neg (by omega), ← haa, ← hNA]
      unfold psA
      simp only
      rw [hidx i j hi hj, normL_getD (hlt i j hi hj)]
    have eB : ∀ i, i < n → augB aa bb n i n = NB i := fun i hi => by
      unfold augB
      rw [if_pos rfl, ← hbb, ← hNB]
      simp only
      rw [normL_getD (by omega)]
    have memA : ∀ i, i < LA.length → LA.getD i (0, 0) ∈ LA := fun i hi => List.mem_of_getElem? (getD_some hi)
    have memB : ∀ i, i < n → LB.getD i (0, 0) ∈ LB := fun i hi => List.mem_of_getElem? (getD_some (by omega))
    have hG : ∀ i j, i < n → j ≤ n → Gd (augB aa bb n i j) := fun i j hi hj => by
      by_cases g : j = n
      · subst g
        rw [eB i hi, ← hNB]
        simp only
        rw [normL_getD (by omega)]
        have := bB _ (memB i hi)
        exact mk2_gd this.1 this.2
      · rw [eA i j hi (by omega), ← hNA]
        simp only
        rw [normL_getD (hlt i j hi (by omega))]
        have := bA _ (memA _ (hlt i j hi (by omega)))
        exact mk2_gd this.1 this.2
    have fX : ∀ X : Nat × Nat, X.1 < 18446744073709551616 ∧ X.2 < 18446744073709551616 → fairB (mk2 X) = fairX X := fun X hX => by
      have g := mk2_gd hX.1 hX.2
      unfold fairB fairX
      rw [fair_same g.l1 g.p1, fair_same g.l2 g.p2]
    have hfr : fairR (augB aa bb n) (n + 1) n = (rangB LA && rangB LB) := by
      rw [Bool.eq_iff_iff, fairR_iff, Bool.and_eq_true]
      unfold rangB
      rw [List.all_eq_true, List.all_eq_true]
      refine ⟨fun h => ⟨fun X hX => ?_, fun X hX => ?_⟩, fun h r j hr hj => ?_⟩
      · obtain ⟨k, hk, e⟩ := List.mem_iff_getElem.1 hX
        have hkn : k < n * n := by omega
        have hr : k / n < n := Nat.div_lt_of_lt_mul hkn
        have hc : k % n < n := Nat.mod_lt _ (by omega)
        have := h (k / n) (k % n) hr (by omega)
        rw [eA _ _ hr hc, Nat.div_add_mod, ← hNA] at this
        simp only at this
        rw [normL_getD hk, List.getD_eq_getElem?_getD, List.getElem?_eq_getElem hk, Option.getD_some, e, fX X (bA X hX)] at this
        exact this
      · obtain ⟨k, hk, e⟩ := List.mem_iff_getElem.1 hX
        have := h k n (by omega) (by omega)
        rw [eB k (by omega), ← hNB] at this
        simp only at this
        rw [normL_getD hk, List.getD_eq_getElem?_getD, List.getElem?_eq_getElem hk, Option.getD_some, e, fX X (bB X hX)] at this
        exact this
      · by_cases g : j = n
        · subst g
          rw [eB r hr, ← hNB]
          simp only
          rw [normL_getD (by omega), fX _ (bB _ (memB r hr))]
          exact h.2 _ (memB r hr)
        · rw [eA r j hr (by omega), ← hNA]
          simp only
          rw [normL_getD (hlt r j hr (by omega)), fX _ (bA _ (memA _ (hlt r j hr (by omega))))]
          exact h.1 _ (memA _ (hlt r j hr (by omega)))
    by_cases hra : (rangB LA && rangB LB) = true
    · obtain ⟨ra, rb⟩ := (Bool.and_eq_true _ _ ▸ hra : rangB LA = true ∧ rangB LB = true)
      cases hsol : solS M V S (augB aa bb n) n with
      | none =>
        have hsN : solN M V S aa (psN LA w.toNat) (psM LA w) bb n = (none, 9) := by
          unfold solN
          rw [if_neg hnot, if_neg (by rw [hfr, hra]; simp), hsol]
        rw [hsN] at ps
        simp only [psR] at ps
        refine fin ps (taken_nil E) (listed_nil E) (judge_sure E n4 lAn hn bA bB hsh' ra rb ?_ _)
        rw [hNA, hNB]
        cases hsu : sureB NA NB n with
        | false => rfl
        | true =>
          obtain ⟨P, H⟩ := sure_heavy n1 hG eA eB (by rw [hfr, hra]) hsu
          obtain ⟨out, hout⟩ := heavy_some O P H n1 n4
          rw [hsol] at hout
          cases hout
      | some out =>
        have hsN : solN M V S aa (psN LA w.toNat) (psM LA w) bb n = (some out, 0) := by
          unfold solN
          rw [if_neg hnot, if_neg (by rw [hfr, hra]; simp), hsol]
        rw [hsN] at ps
        simp only [psR] at ps
        obtain ⟨LO, hLO⟩ : ∃ LO, (List.range n).map out = LO := ⟨_, rfl⟩
        rw [hLO] at ps
        have lO : LO.length = n := by rw [← hLO]; simp
        have gO : ∀ i, i < n → LO.getD i (0, 0) = out i := fun i hi => by
          rw [← hLO, List.getD_eq_getElem?_getD, List.getElem?_map, List.getElem?_range hi]
          rfl
        obtain ⟨hd, hh⟩ := held_law O n4 hG eA eB hsol (soP o)
        have hwi : ∀ i j, i < n → j ≤ n → Wi (iL (augB aa bb n i j)) (augB aa bb n i j) := fun i j hi hj => ⟨Rat.le_refl, (hG i j hi hj).iLH⟩
        have hdet := solS_det O n4 hG hwi hsol
        have gout := (solS_wi O hG hwi (cram_sat n4 hdet) hsol).2
        have gLO : ∀ X ∈ LO, Gd X := fun X hX => by
          rw [← hLO, List.mem_map] at hX
          obtain ⟨i, _, rfl⟩ := hX
          exact gout i
        have nlA := normL_len LA
        have nlB := normL_len LB
        have fair_of : ∀ X : Nat × Nat, X.1 < 18446744073709551616 ∧ X.2 < 18446744073709551616 → fairX X = true → Nr (loN (mk2 X)) 53 82 ∧ Nr (hiN (mk2 X)) 53 82 := fun X hX hf => by
          have g := mk2_gd hX.1 hX.2
          unfold fairX at hf
          rw [Bool.and_eq_true] at hf
          unfold loN hiN
          rw [mk2_idj g]
          exact ⟨fair_nr hf.1, fair_nr hf.2⟩
        have fA : ∀ X ∈ normL LA, Nr (loN X) 53 82 ∧ Nr (hiN X) 53 82 := fun X hX => by
          unfold normL at hX
          rw [List.mem_map] at hX
          obtain ⟨Y, hY, rfl⟩ := hX
          exact fair_of Y (bA Y hY) (List.all_eq_true.1 ra Y hY)
        have fB : ∀ X ∈ normL LB, Nr (loN X) 53 82 ∧ Nr (hiN X) 53 82 := fun X hX => by
          unfold normL at hX
          rw [List.mem_map] at hX
          obtain ⟨Y, hY, rfl⟩ := hX
          exact fair_of Y (bB Y hY) (List.all_eq_true.1 rb Y hY)
        have hc := held_c E (LA := normL LA) (LB := normL LB) (LO := LO) n4 n1 (by rw [nlA, lAn]) (by rw [nlB, hn]) lO (normL_bits bA) (normL_bits bB) gLO (soP o) fA fB (by rw [hNA]; exact hd) (fun i hi => by
          rw [hNA, hNB]
          exact hh _ gO i hi)
        have lk := listed_0 E (L := LO) (by omega)
        refine fin ps (taken_c E (by omega)) lk (judge_ok E n1 n4 lAn hn lO bA bB gLO hsh' ra rb _ hc fun hsu => ?_)
        rw [hNA, hNB] at hsu
        obtain ⟨P, H⟩ := sure_heavy n1 hG eA eB (by rw [hfr, hra]) hsu
        refine narrow_c E n4 lO gLO fun G hGr i hi => ?_
        rw [gO i hi]
        exact heavy_narrow O P H n1 n4 (cram_sat n4 (solS_det O n4 hG P.wi hsol)) hsol (fun j hj => by have := hGr j hj; rwa [gO j hj] at this) i hi
    · have hraf : (rangB LA && rangB LB) = false := by
        cases h : (rangB LA && rangB LB)
        · rfl
        · exact absurd h hra
      have hsN : solN M V S aa (psN LA w.toNat) (psM LA w) bb n = (none, 3) := by
        unfold solN
        rw [if_neg hnot, if_pos (by rw [hfr, hraf])]
      rw [hsN] at ps
      simp only [psR] at ps
      exact fin ps (taken_nil E) (listed_nil E) (judge_range E lA6 lB6 bA bB hsh' hraf _)
  · have hshf : shapB LA.length w LB.length = false := by
      rw [hn]
      cases h : shapB LA.length w n
      · rfl
      · exact absurd h hsh
    have hyes : n < 1 ∨ 4 < n ∨ psM LA w ≠ n ∨ ¬ (∀ i, i < psM LA w → psN LA w.toNat i = n) := Decidable.byContradiction fun h => hsh (shape_iff.1 h)
    have hsN : solN M V S aa (psN LA w.toNat) (psM LA w) bb n = (none, 8) := by
      unfold solN
      rw [if_pos hyes]
    rw [hsN] at ps
    simp only [psR] at ps
    exact fin ps (taken_nil E) (listed_nil E) (judge_shape E lA6 lB6 hshf _)
theorem plays_solve (hq : Sent E q) {o : OpD} (hw : o.Wf) (hlen : o.p.length * 8 ≤ 140737488355328) (hk : o.kind = 7) : DCall Tryz.prog E 12 [opD o] (.data (bD true)) := by
  have h := solved_c hq hw hlen
  obtain ⟨kind, a, b, s, xl, xh, yl, yh, p⟩ := o
  simp only at hk
  subst hk
  refine dcall_of Tryz.func12 rfl (by kernel_rfl) Tryz.ntmps12 (by kernel_rfl) (by simp) (rs := [.tmp 2]) rfl ?_
  rintro ⟨P, E, σ0, w0, base, n, kb, df, G0⟩ rfl rfl rfl rfl
  simp -implicitDefEqProofs only [go_sem, OpD.cells, iD, uD, Int.reduceBEq]
  refine Call.intro h ?_
  simp -implicitDefEqProofs only [go_sem, finK]
end
end Go.Enc
end
section
set_option linter.unusedSimpArgs false
namespace Go.Enc
open Go.Proofs Go.RowKit Go.ChangeShapes Go.Deep
def tabCells : List Value := [.string ⟨#[43]⟩, .func (.func 41) #[] #[], .string ⟨#[45]⟩, .func (.func 42) #[] #[], .string ⟨#[42]⟩, .func (.func 43) #[] #[],
  .string ⟨#[47]⟩, .func (.func 44) #[] #[], .string ⟨#[109, 101, 101, 116]⟩, .func (.func 40) #[] #[], .string ⟨#[104, 117, 108, 108]⟩, .func (.func 183) #[] #[]]
noncomputable def tabWorld (os : Os) : World :=
  let w0 := World.holding Tryz.prog os ⟨((texts.map fun s => Go.Obj.cells #[.string s] 235) ++ [Go.Obj.cells tabCells.toArray 61]).toArray, #[], []⟩
  { w0 with heap := setGlobal (setGlobal ((List.range 9).foldl (fun h g => setGlobal h g (errV ⟨low + g, 0, none⟩)) w0.heap) 11 (.iface 199 (.agg #[.pointer (some ⟨12, 61, none⟩)]))) 9 (.slice (some ⟨low + 9, 0, none⟩) 6 6) }
set_option maxRecDepth 100000 in
theorem tab_met (os : Os) : laidMetH Tryz.prog YtjlibljfpkmpfaaGreatDoor.Rows.makesRow.laid ((tabWorld os).forCall (fun _ _ => 0) ⟨#[], #[], []⟩).memory :=
  laidMetH_of_parts3 (fuel := 8) (laidMet_of_run' 8 (by kernel_rfl) (by kernel_rfl)) (by kernel_rfl) (by kernel_rfl)
section
variable {H : Type} {enc : TypeId × Value → H} {w : World} {held : Bool} {sp : Nat → Bool}
end
end Go.Enc
end
