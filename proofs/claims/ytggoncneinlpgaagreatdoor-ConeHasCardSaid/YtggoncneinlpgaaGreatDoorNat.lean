/- Plain lemmas about natural numbers as lists of 64-bit digits, least digit first. No program in sight. -/
import Derived.WalkKit
namespace Go.Proofs.YtggoncneinlpgaaGreatDoor
namespace Nt

/-- The digit base. -/
def B : Nat := 18446744073709551616
theorem B_eq : B = 18446744073709551616 := rfl
theorem B_pos : 0 < B := by rw [B_eq]; omega

/-- The number of a list of digits, least first. -/
def nv : List Nat → Nat
  | [] => 0
  | d :: r => d + B * nv r

/-- All digits are below the base. -/
def Dig (l : List Nat) : Prop := ∀ d ∈ l, d < B

theorem Dig.nil : Dig [] := fun _ h => by cases h
theorem Dig.cons {d : Nat} {l : List Nat} (h : d < B) (hl : Dig l) : Dig (d :: l) := fun x hx => by
  rcases List.mem_cons.1 hx with rfl | hx
  · exact h
  · exact hl x hx
theorem Dig.head {d : Nat} {l : List Nat} (h : Dig (d :: l)) : d < B := h d (List.mem_cons_self ..)
theorem Dig.tail {d : Nat} {l : List Nat} (h : Dig (d :: l)) : Dig l := fun x hx => h x (List.mem_cons_of_mem _ hx)
theorem Dig.append {a b : List Nat} (ha : Dig a) (hb : Dig b) : Dig (a ++ b) := fun x hx => by
  rcases List.mem_append.1 hx with h | h
  · exact ha x h
  · exact hb x h
theorem Dig.take {l : List Nat} (h : Dig l) (k : Nat) : Dig (l.take k) := fun x hx => h x (List.mem_of_mem_take hx)
theorem Dig.drop {l : List Nat} (h : Dig l) (k : Nat) : Dig (l.drop k) := fun x hx => h x (List.mem_of_mem_drop hx)
theorem Dig.getElem {l : List Nat} (h : Dig l) (i : Nat) (hi : i < l.length) : l[i] < B := h _ (List.getElem_mem hi)
theorem Dig.getD {l : List Nat} (h : Dig l) (i : Nat) : l.getD i 0 < B := by
  by_cases hi : i < l.length
  · simp only [List.getD, List.getElem?_eq_getElem hi, Option.getD_some]; exact h.getElem i hi
  · simp only [List.getD, List.getElem?_eq_none (Nat.le_of_not_lt hi), Option.getD_none]; exact B_pos

theorem nv_append (a b : List Nat) : nv (a ++ b) = nv a + B ^ a.length * nv b := by
  induction a with
  | nil => simp [nv]
  | cons d a ih =>
    simp only [List.cons_append, nv, ih, List.length_cons, Nat.pow_succ, Nat.mul_add]
    rw [Nat.add_assoc, Nat.mul_comm (B ^ a.length) B, Nat.mul_assoc]

theorem nv_lt {l : List Nat} (h : Dig l) : nv l < B ^ l.length := by
  induction l with
  | nil => simp [nv]
  | cons d l ih =>
    have h1 := ih h.tail
    have h2 := h.head
    simp only [nv, List.length_cons, Nat.pow_succ]
    have h3 : B * (nv l + 1) ≤ B * B ^ l.length := Nat.mul_le_mul_left B h1
    rw [Nat.mul_add, Nat.mul_one] at h3
    rw [Nat.mul_comm (B ^ l.length) B]
    omega

/-- No leading zero. -/
def Norm (l : List Nat) : Prop := ∀ h : l ≠ [], l.getLast h ≠ 0

theorem Norm.nil : Norm [] := fun h => absurd rfl h
theorem Norm.tail {d : Nat} {l : List Nat} (h : Norm (d :: l)) : Norm l := fun hl => by
  have := h (by simp)
  rwa [List.getLast_cons hl] at this

theorem nv_zero {l : List Nat} (h : Norm l) : nv l = 0 ↔ l = [] := by
  induction l with
  | nil => simp [nv]
  | cons d l ih =>
    simp only [nv, reduceCtorEq, iff_false]
    intro e
    have hd : d = 0 := by omega
    have hl : B * nv l = 0 := by omega
    have hl0 : nv l = 0 := by
      rcases Nat.mul_eq_zero.1 hl with h0 | h0
      · rw [B_eq] at h0; omega
      · exact h0
    have := (ih h.tail).1 hl0
    subst this
    exact h (by simp) (by simpa using hd)

theorem nv_inj {a b : List Nat} (ha : Dig a) (hb : Dig b) (na : Norm a) (nb : Norm b) (h : nv a = nv b) : a = b := by
  induction a generalizing b with
  | nil => exact ((nv_zero nb).1 (by simpa [nv] using h.symm)).symm
  | cons d a ih =>
    cases b with
    | nil => exact absurd ((nv_zero na).1 (by simpa [nv] using h)) (by simp)
    | cons e b =>
      simp only [nv] at h
      have h1 := ha.head
      have h2 := hb.head
      have hm : (d + B * nv a) % B = (e + B * nv b) % B := by rw [h]
      rw [Nat.add_mul_mod_self_left, Nat.add_mul_mod_self_left, Nat.mod_eq_of_lt h1, Nat.mod_eq_of_lt h2] at hm
      subst hm
      have hq : B * nv a = B * nv b := by omega
      have := Nat.eq_of_mul_eq_mul_left B_pos hq
      rw [ih ha.tail hb.tail na.tail nb.tail this]

/-- The digits of a number. -/
def dg (n : Nat) : List Nat := if _h : n = 0 then [] else n % B :: dg (n / B)
termination_by n
decreasing_by exact Nat.div_lt_self (by omega) (by rw [B_eq]; omega)

theorem dg_zero : dg 0 = [] := by rw [dg]; simp
theorem dg_pos {n : Nat} (h : n ≠ 0) : dg n = n % B :: dg (n / B) := by rw [dg]; simp [h]

theorem nv_dg (n : Nat) : nv (dg n) = n := by
  induction n using Nat.strongRecOn with
  | ind n ih =>
    by_cases h : n = 0
    · subst h; rw [dg_zero]; rfl
    · rw [dg_pos h, nv, ih (n / B) (Nat.div_lt_self (by omega) (by rw [B_eq]; omega))]
      exact Nat.mod_add_div n B

theorem dig_dg (n : Nat) : Dig (dg n) := by
  induction n using Nat.strongRecOn with
  | ind n ih =>
    by_cases h : n = 0
    · subst h; rw [dg_zero]; exact Dig.nil
    · rw [dg_pos h]; exact Dig.cons (Nat.mod_lt _ B_pos) (ih (n / B) (Nat.div_lt_self (by omega) (by rw [B_eq]; omega)))

theorem norm_dg (n : Nat) : Norm (dg n) := by
  induction n using Nat.strongRecOn with
  | ind n ih =>
    by_cases h : n = 0
    · subst h; rw [dg_zero]; exact Norm.nil
    · have hr := ih (n / B) (Nat.div_lt_self (by omega) (by rw [B_eq]; omega))
      rw [dg_pos h]
      by_cases hq : n / B = 0
      · have : n < B := by
          rcases Nat.div_eq_zero_iff.1 hq with h0 | h0
          · rw [B_eq] at h0; omega
          · exact h0
        rw [hq, dg_zero, Nat.mod_eq_of_lt this]
        intro _
        simpa using h
      · intro _
        have hne : dg (n / B) ≠ [] := by rw [dg_pos hq]; simp
        rw [List.getLast_cons hne]
        exact hr hne

theorem dg_nv {l : List Nat} (h : Dig l) (n : Norm l) : dg (nv l) = l :=
  nv_inj (dig_dg _) h (norm_dg _) n (nv_dg _)

/-- Digits of a number below the base. -/
theorem dg_one {n : Nat} (h0 : n ≠ 0) (h : n < B) : dg n = [n] := by
  rw [dg_pos h0, Nat.mod_eq_of_lt h, Nat.div_eq_of_lt h, dg_zero]

theorem dg_length_le {n k : Nat} (h : n < B ^ k) : (dg n).length ≤ k := by
  induction k generalizing n with
  | zero =>
    have : n = 0 := by simpa using h
    subst this; simp [dg_zero]
  | succ k ih =>
    by_cases h0 : n = 0
    · subst h0; simp [dg_zero]
    · rw [dg_pos h0, List.length_cons]
      have : n / B < B ^ k := by
        rw [Nat.div_lt_iff_lt_mul B_pos]
        rwa [Nat.pow_succ] at h
      have := ih this
      omega

/-- Zeros behind place k say nothing. -/
theorem nv_zeros {l : List Nat} (h : ∀ d ∈ l, d = 0) : nv l = 0 := by
  induction l with
  | nil => rfl
  | cons d l ih =>
    have h1 := h d (List.mem_cons_self ..)
    have h2 := ih (fun x hx => h x (List.mem_cons_of_mem _ hx))
    simp [nv, h1, h2]
theorem nv_take {l : List Nat} {k : Nat} (h : ∀ j, k ≤ j → (hj : j < l.length) → l[j] = 0) : nv (l.take k) = nv l := by
  have h1 : nv (l.drop k) = 0 := nv_zeros fun d hd => by
    obtain ⟨i, hi, rfl⟩ := List.getElem_of_mem hd
    rw [List.getElem_drop]
    exact h (k + i) (Nat.le_add_right _ _) (by rw [List.length_drop] at hi; omega)
  have h2 := nv_append (l.take k) (l.drop k)
  rw [List.take_append_drop, h1, Nat.mul_zero, Nat.add_zero] at h2
  exact h2.symm
theorem norm_take {l : List Nat} {k : Nat} (hk : k ≤ l.length) (h : (h0 : 0 < k) → l[k - 1]'(by omega) ≠ 0) : Norm (l.take k) := by
  intro hne
  have h0 : 0 < k := by
    rcases Nat.eq_zero_or_pos k with rfl | h0
    · simp at hne
    · exact h0
  rw [List.getLast_eq_getElem, List.getElem_take]
  have e : (l.take k).length - 1 = k - 1 := by rw [List.length_take]; omega
  simp only [e]
  exact h h0
/-- The digits of a row's number: the row without its leading zeros. -/
theorem dg_take {l : List Nat} {k : Nat} (hd : Dig l) (hk : k ≤ l.length) (hz : ∀ j, k ≤ j → (hj : j < l.length) → l[j] = 0) (h : (h0 : 0 < k) → l[k - 1]'(by omega) ≠ 0) :
    dg (nv l) = l.take k := by
  rw [← nv_take hz]
  exact dg_nv (hd.take k) (norm_take hk h)

/-! ### Comparison -/
def cmpI (a b : Nat) : Int := if a < b then -1 else if a = b then 0 else 1

theorem nv_ge {l : List Nat} (h : Norm l) (hne : l ≠ []) : B ^ (l.length - 1) ≤ nv l := by
  induction l with
  | nil => exact absurd rfl hne
  | cons d l ih =>
    by_cases hl : l = []
    · subst hl
      have : d ≠ 0 := by simpa using h (by simp)
      simp [nv]; omega
    · have h1 := ih h.tail hl
      have h2 : 0 < l.length := List.length_pos_iff.2 hl
      simp only [nv, List.length_cons, Nat.add_sub_cancel]
      have e : B ^ l.length = B * B ^ (l.length - 1) := by
        rw [← Nat.pow_succ']; congr 1; omega
      rw [e]
      have := Nat.mul_le_mul_left B h1
      omega
theorem lt_of_length {X Y : Nat} (h : (dg X).length < (dg Y).length) : X < Y := by
  have h1 := nv_lt (dig_dg X)
  have hne : dg Y ≠ [] := fun e => by rw [e] at h; simp at h
  have h2 := nv_ge (norm_dg Y) hne
  rw [nv_dg] at h1 h2
  have : B ^ (dg X).length ≤ B ^ ((dg Y).length - 1) := Nat.pow_le_pow_right B_pos (by omega)
  omega
theorem nv_split {l : List Nat} {k : Nat} (hk : k < l.length) : nv l = nv (l.take k) + B ^ k * (l[k] + B * nv (l.drop (k + 1))) := by
  have h := nv_append (l.take k) (l.drop k)
  rw [List.take_append_drop, List.length_take, Nat.min_eq_left (by omega), List.drop_eq_getElem_cons hk] at h
  simpa [nv] using h
theorem nv_lt_at {x y : List Nat} {k : Nat} (hx : Dig x) (hkx : k < x.length) (hky : k < y.length) (hd : x.drop (k + 1) = y.drop (k + 1)) (h : x[k] < y[k]) : nv x < nv y := by
  rw [nv_split hkx, nv_split hky, hd]
  have h1 := nv_lt (hx.take k)
  rw [List.length_take, Nat.min_eq_left (by omega)] at h1
  have h2 : B ^ k * (x[k] + B * nv (y.drop (k + 1)) + 1) ≤ B ^ k * (y[k] + B * nv (y.drop (k + 1))) := Nat.mul_le_mul_left _ (by omega)
  rw [Nat.mul_add, Nat.mul_one] at h2
  omega

end Nt
end Go.Proofs.YtggoncneinlpgaaGreatDoor
