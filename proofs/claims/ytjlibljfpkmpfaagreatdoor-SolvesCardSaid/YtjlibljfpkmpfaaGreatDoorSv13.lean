/-
  Natural numbers by their digits to the base 2^24, the lowest first.
-/
import Derived.WalkKit
namespace Go.Enc.Dg
/-- The base. -/
abbrev B : Nat := 16777216
/-- The number of a list of digits. -/
def vl : List Nat → Nat
  | [] => 0
  | d :: r => d + B * vl r
/-- Digits alone. -/
def Dig (l : List Nat) : Prop := ∀ d ∈ l, d < B
/-- The digits of a number. -/
def dg (n : Nat) : List Nat := if _h : n = 0 then [] else (n % B) :: dg (n / B)
termination_by n
decreasing_by exact Nat.div_lt_self (Nat.pos_of_ne_zero ‹_›) (by decide)
theorem dg_zero : dg 0 = [] := by rw [dg]; simp
theorem dg_pos {n : Nat} (h : n ≠ 0) : dg n = (n % B) :: dg (n / B) := by rw [dg]; simp [h]
theorem vl_dg (n : Nat) : vl (dg n) = n := by
  induction n using Nat.strongRecOn with
  | ind n ih =>
    by_cases h : n = 0
    · subst h; rw [dg_zero]; rfl
    · rw [dg_pos h]
      simp only [vl]
      rw [ih (n / B) (Nat.div_lt_self (Nat.pos_of_ne_zero h) (by decide))]
      exact Nat.mod_add_div n B
theorem dig_dg (n : Nat) : Dig (dg n) := by
  induction n using Nat.strongRecOn with
  | ind n ih =>
    by_cases h : n = 0
    · subst h; rw [dg_zero]; intro d hd; cases hd
    · rw [dg_pos h]
      intro d hd
      rcases List.mem_cons.1 hd with rfl | hd
      · exact Nat.mod_lt _ (by decide)
      · exact ih (n / B) (Nat.div_lt_self (Nat.pos_of_ne_zero h) (by decide)) d hd
theorem Dig.cons {d : Nat} {l : List Nat} (h : Dig (d :: l)) : d < B ∧ Dig l := ⟨h d (by simp), fun x hx => h x (by simp [hx])⟩
theorem Dig.mk {d : Nat} {l : List Nat} (h : d < B) (k : Dig l) : Dig (d :: l) := fun x hx => by
  rcases List.mem_cons.1 hx with rfl | hx
  · exact h
  · exact k x hx
theorem Dig.snoc {d : Nat} {l : List Nat} (k : Dig l) (h : d < B) : Dig (l ++ [d]) := fun x hx => by
  simp only [List.mem_append, List.mem_singleton] at hx
  rcases hx with hx | rfl
  · exact k x hx
  · exact h
theorem Dig.set {d i : Nat} {l : List Nat} (k : Dig l) (h : d < B) : Dig (l.set i d) := fun x hx => by
  rcases List.mem_or_eq_of_mem_set hx with hx | rfl
  · exact k x hx
  · exact h
theorem Dig.take {i : Nat} {l : List Nat} (k : Dig l) : Dig (l.take i) := fun x hx => k x (List.mem_of_mem_take hx)
theorem Dig.app {l m : List Nat} (k : Dig l) (h : Dig m) : Dig (l ++ m) := fun x hx => by
  simp only [List.mem_append] at hx
  rcases hx with hx | hx
  · exact k x hx
  · exact h x hx
theorem Dig.get {l : List Nat} (k : Dig l) {i x : Nat} (h : l[i]? = some x) : x < B := k x (List.mem_of_getElem? h)
theorem vl_lt : ∀ {l : List Nat}, Dig l → vl l < B ^ l.length
  | [], _ => by simp [vl]
  | d :: l, h => by
    have := vl_lt h.cons.2
    have h1 := h.cons.1
    simp only [vl, List.length_cons, Nat.pow_succ]
    generalize B ^ l.length = p at *
    simp only [B] at *
    omega
theorem vl_app : ∀ (l m : List Nat), vl (l ++ m) = vl l + B ^ l.length * vl m
  | [], m => by simp [vl]
  | d :: l, m => by
    simp only [List.cons_append, vl, vl_app l m, List.length_cons, Nat.pow_succ]
    rw [Nat.mul_add, Nat.mul_comm (B ^ l.length) B, Nat.mul_assoc]
    omega
theorem vl_snoc (l : List Nat) (d : Nat) : vl (l ++ [d]) = vl l + B ^ l.length * d := by rw [vl_app]; simp [vl]
theorem vl_set : ∀ (l : List Nat) (i x d : Nat), l[i]? = some x → vl (l.set i d) + B ^ i * x = vl l + B ^ i * d
  | [], i, x, d, h => by simp at h
  | a :: l, 0, x, d, h => by
    simp only [List.getElem?_cons_zero, Option.some.injEq] at h
    subst h
    simp [vl]; omega
  | a :: l, i + 1, x, d, h => by
    simp only [List.getElem?_cons_succ] at h
    have := vl_set l i x d h
    simp only [List.set_cons_succ, vl, Nat.pow_succ]
    have e1 : B ^ i * B * x = B * (B ^ i * x) := by rw [Nat.mul_comm (B ^ i) B, Nat.mul_assoc]
    have e2 : B ^ i * B * d = B * (B ^ i * d) := by rw [Nat.mul_comm (B ^ i) B, Nat.mul_assoc]
    rw [e1, e2]
    generalize B ^ i * x = p at *
    generalize B ^ i * d = q at *
    generalize vl (l.set i d) = u at *
    simp only [B]
    omega
theorem vl_take {l : List Nat} {i x : Nat} (h : l[i]? = some x) : vl (l.take (i + 1)) = vl (l.take i) + B ^ i * x := by
  have hl : i < l.length := by
    rcases Nat.lt_or_ge i l.length with h' | h'
    · exact h'
    · rw [List.getElem?_eq_none h'] at h; cases h
  rw [List.take_add_one, h]
  simp only [Option.toList_some]
  rw [vl_snoc, List.length_take, Nat.min_eq_left (by omega)]
theorem vl_take_ge {l : List Nat} {i : Nat} (h : l.length ≤ i) : vl (l.take i) = vl l := by rw [List.take_of_length_le h]
theorem vl_zeros (n : Nat) : vl (List.replicate n 0) = 0 := by
  induction n with
  | zero => rfl
  | succ n ih => simp [List.replicate_succ, vl, ih]
theorem dig_zeros (n : Nat) : Dig (List.replicate n 0) := fun d hd => by
  rw [(List.mem_replicate.1 hd).2]; decide
/-- A list whose top digit counts is the number's list. -/
theorem dg_of : ∀ {l : List Nat}, Dig l → (l = [] ∨ B ^ (l.length - 1) ≤ vl l) → dg (vl l) = l
  | [], _, _ => dg_zero
  | d :: l, h, hb => by
    have h1 := h.cons.1
    have hl := vl_lt h.cons.2
    rcases hb with hb | hb
    · cases hb
    simp only [List.length_cons, Nat.add_sub_cancel, vl] at hb
    have hne : d + B * vl l ≠ 0 := by
      have : 0 < B ^ l.length := Nat.pow_pos (by decide)
      omega
    simp only [vl]
    rw [dg_pos hne]
    have e1 : (d + B * vl l) % B = d := by rw [Nat.add_mul_mod_self_left, Nat.mod_eq_of_lt h1]
    have e2 : (d + B * vl l) / B = vl l := by rw [Nat.add_mul_div_left _ _ (by decide), Nat.div_eq_of_lt h1]; omega
    rw [e1, e2, dg_of h.cons.2 ?_]
    cases l with
    | nil => exact .inl rfl
    | cons e l =>
      refine .inr ?_
      simp only [List.length_cons, Nat.add_sub_cancel, Nat.pow_succ] at hb ⊢
      generalize vl (e :: l) = v at *
      generalize B ^ l.length = p at *
      simp only [B] at *
      omega
theorem dg_ge {n : Nat} (h : n ≠ 0) : B ^ ((dg n).length - 1) ≤ n := by
  induction n using Nat.strongRecOn with
  | ind n ih =>
    rw [dg_pos h]
    simp only [List.length_cons, Nat.add_sub_cancel]
    by_cases h2 : n / B = 0
    · rw [h2, dg_zero]; simp; omega
    · have h3 := ih (n / B) (Nat.div_lt_self (Nat.pos_of_ne_zero h) (by decide)) h2
      have hne : dg (n / B) ≠ [] := by rw [dg_pos h2]; simp
      have hp : 0 < (dg (n / B)).length := List.length_pos_iff.2 hne
      obtain ⟨m, hm⟩ : ∃ m, (dg (n / B)).length = m + 1 := ⟨(dg (n / B)).length - 1, by omega⟩
      rw [hm] at h3 ⊢
      simp only [Nat.add_sub_cancel] at *
      have h4 := Nat.mul_le_mul_right B h3
      have h5 := Nat.div_mul_le_self n B
      rw [Nat.pow_succ]
      exact Nat.le_trans h4 h5
theorem dg_lt (n : Nat) : n < B ^ (dg n).length := by have := vl_lt (dig_dg n); rwa [vl_dg] at this
theorem dg_nil {n : Nat} : dg n = [] ↔ n = 0 := by
  constructor
  · intro h; have := vl_dg n; rw [h] at this; exact this.symm
  · rintro rfl; exact dg_zero
theorem dg_len0 {n : Nat} : (dg n).length = 0 ↔ n = 0 := by rw [List.length_eq_zero_iff]; exact dg_nil
theorem dg_len_le {n i : Nat} (h2 : n < B ^ i) : (dg n).length ≤ i := by
  by_cases h0 : n = 0
  · rw [dg_len0.2 h0]; omega
  · rcases Nat.lt_or_ge i (dg n).length with h | h
    · have a := dg_ge h0
      have := Nat.pow_le_pow_right (show 0 < B by decide) (show i ≤ (dg n).length - 1 by omega); omega
    · exact h
theorem dg_len_mono {n m : Nat} (h : n ≤ m) : (dg n).length ≤ (dg m).length := dg_len_le (Nat.lt_of_le_of_lt h (dg_lt m))
/-- A digit: what stands below, what above. -/
theorem vl_split {l : List Nat} {i x : Nat} (h : l[i]? = some x) : vl l = vl (l.take i) + B ^ i * x + B ^ (i + 1) * vl (l.drop (i + 1)) := by
  have hl : i < l.length := by
    rcases Nat.lt_or_ge i l.length with h' | h'
    · exact h'
    · rw [List.getElem?_eq_none h'] at h; cases h
  have e : l = l.take (i + 1) ++ l.drop (i + 1) := (List.take_append_drop _ _).symm
  have := vl_app (l.take (i + 1)) (l.drop (i + 1))
  rw [← e, vl_take h, List.length_take, Nat.min_eq_left (by omega)] at this
  exact this
/-- Without noughts at the top. -/
theorem vl_trim (l : List Nat) (i : Nat) (h : ∀ j x, i ≤ j → l[j]? = some x → x = 0) : vl (l.take i) = vl l := by
  have := vl_app (l.take i) (l.drop i)
  rw [List.take_append_drop] at this
  have hz : ∀ m : List Nat, (∀ (j x : Nat), m[j]? = some x → x = 0) → vl m = 0 := by
    intro m
    induction m with
    | nil => intro _; rfl
    | cons d m ih =>
      intro hm
      simp only [vl]
      rw [hm 0 d (by simp), ih fun j x hj => hm (j + 1) x (by simpa using hj)]; rfl
  have hd : vl (l.drop i) = 0 := hz _ fun j x hj => by
    rw [List.getElem?_drop] at hj
    exact h (i + j) x (by omega) hj
  rw [this, hd]; omega
end Go.Enc.Dg
