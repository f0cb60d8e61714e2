/- Lists that are renumberings: the plain law. No statement of the program is proved here. -/
import Derived.Test.YtjgmoffkecnmcaaWo1
namespace Go.Proofs.Ytjgmoffkecnmcaa
open Go.RowKit
set_option linter.unusedSimpArgs false
set_option linter.unusedVariables false
set_option maxRecDepth 20000

/-- How often each of the numbers below n comes, added up. -/
def cntSum (xs : List Int) : Nat → Nat
  | 0 => 0
  | n + 1 => cntSum xs n + xs.count (n : Int)
theorem cntSum_nil (n : Nat) : cntSum [] n = 0 := by
  induction n with
  | zero => rfl
  | succ n ih => simp [cntSum, ih]
theorem cntSum_cons (x : Int) (xs : List Int) (n : Nat) : cntSum (x :: xs) n = cntSum xs n + (if 0 ≤ x ∧ x < n then 1 else 0) := by
  induction n with
  | zero => simp only [cntSum]; rw [if_neg (by omega)]
  | succ n ih =>
    simp only [cntSum]
    rw [ih, List.count_cons]
    by_cases h : x = (n : Int)
    · subst h
      rw [if_neg (by omega), if_pos (c := 0 ≤ (n : Int) ∧ (n : Int) < ((n + 1 : Nat) : Int)) (by omega)]
      simp; omega
    · have e1 : (x == (n : Int)) = false := by simpa using h
      rw [e1]
      by_cases h2 : 0 ≤ x ∧ x < (n : Int)
      · rw [if_pos h2, if_pos (c := 0 ≤ x ∧ x < ((n + 1 : Nat) : Int)) (by omega)]; simp; omega
      · rw [if_neg h2, if_neg (c := 0 ≤ x ∧ x < ((n + 1 : Nat) : Int)) (by omega)]; simp
theorem cntSum_all {xs : List Int} {n : Nat} (h : ∀ x ∈ xs, 0 ≤ x ∧ x < (n : Int)) : cntSum xs n = xs.length := by
  induction xs with
  | nil => exact cntSum_nil n
  | cons x xs ih =>
    rw [cntSum_cons, ih (fun y hy => h y (by simp [hy])), if_pos (h x (by simp))]; rfl
theorem cntSum_ge {xs : List Int} : ∀ {n : Nat}, (∀ i, i < n → 1 ≤ xs.count (i : Int)) → n ≤ cntSum xs n
  | 0, _ => Nat.zero_le _
  | n + 1, h => by have := cntSum_ge (n := n) fun i hi => h i (by omega); have := h n (by omega); simp only [cntSum]; omega
theorem cntSum_ge_eq {xs : List Int} : ∀ {n : Nat}, (∀ i, i < n → 1 ≤ xs.count (i : Int)) → cntSum xs n = n → ∀ i, i < n → xs.count (i : Int) = 1
  | 0, _, _ => fun i hi => by omega
  | n + 1, h, e => fun i hi => by
    have h1 := cntSum_ge (n := n) fun i hi => h i (by omega)
    have h2 := h n (by omega)
    simp only [cntSum] at e
    by_cases hin : i = n
    · subst hin; omega
    · exact cntSum_ge_eq (n := n) (fun i hi => h i (by omega)) (by omega) i (by omega)
theorem cntSum_le {xs : List Int} : ∀ {n : Nat}, (∀ i, i < n → xs.count (i : Int) ≤ 1) → cntSum xs n ≤ n
  | 0, _ => Nat.le_refl _
  | n + 1, h => by have := cntSum_le (n := n) fun i hi => h i (by omega); have := h n (by omega); simp only [cntSum]; omega
theorem cntSum_le_eq {xs : List Int} : ∀ {n : Nat}, (∀ i, i < n → xs.count (i : Int) ≤ 1) → cntSum xs n = n → ∀ i, i < n → xs.count (i : Int) = 1
  | 0, _, _ => fun i hi => by omega
  | n + 1, h, e => fun i hi => by
    have h1 := cntSum_le (n := n) fun i hi => h i (by omega)
    have h2 := h n (by omega)
    simp only [cntSum] at e
    by_cases hin : i = n
    · subst hin; omega
    · exact cntSum_le_eq (n := n) (fun i hi => h i (by omega)) (by omega) i (by omega)

/-- A renumbering of n vertices. -/
def permB (xs : List Int) (n : Nat) : Bool := decide (xs.length = n) && xs.all (fun x => inB x 0 ((n : Int) - 1)) && decide xs.Nodup
theorem inB_all {xs : List Int} {n : Nat} (h : xs.all (fun x => inB x 0 ((n : Int) - 1)) = true) : ∀ x ∈ xs, 0 ≤ x ∧ x < (n : Int) := fun x hx => by
  rw [List.all_eq_true] at h
  have := inB_true.1 (h x hx)
  omega
/-- A list of n numbers below n has each one exactly if it has none twice. -/
theorem full_iff {xs : List Int} {n : Nat} (hl : xs.length = n) (h : ∀ x ∈ xs, 0 ≤ x ∧ x < (n : Int)) : (∀ i, i < n → (i : Int) ∈ xs) ↔ xs.Nodup := by
  have hs := cntSum_all h
  rw [hl] at hs
  rw [List.nodup_iff_count]
  constructor
  · intro hm a
    by_cases ha : a ∈ xs
    · obtain ⟨i, rfl⟩ : ∃ i : Nat, a = i := ⟨a.toNat, by have := h a ha; omega⟩
      rw [cntSum_ge_eq (fun i hi => List.one_le_count_iff.2 (hm i hi)) hs i (by have := h _ ha; omega)]
      exact Nat.le_refl _
    · rw [List.count_eq_zero.2 ha]; omega
  · intro hn i hi
    have := cntSum_le_eq (xs := xs) (n := n) (fun i _ => hn _) hs i hi
    exact List.one_le_count_iff.1 (by omega)
theorem setN_full {xs : List Int} {n : Nat} (hl : xs.length = n) (h : ∀ x ∈ xs, 0 ≤ x ∧ x < (n : Int)) : decide (setN xs = 2 ^ n - 1) = decide xs.Nodup := by
  rw [decide_eq_decide, ← full_iff hl h]
  have hb := setN_bit (xs := xs) fun x hx => (h x hx).1
  constructor
  · intro e i hi
    have h1 := hb i
    rw [e, Nat.testBit_two_pow_sub_one] at h1
    simpa [hi] using h1.symm
  · intro hm
    refine Nat.eq_of_testBit_eq fun i => ?_
    rw [hb, Nat.testBit_two_pow_sub_one]
    by_cases hi : i < n
    · simp [hi, hm i hi]
    · have : ¬ (i : Int) ∈ xs := fun hm => by have := h _ hm; omega
      simp [hi, this]
end Go.Proofs.Ytjgmoffkecnmcaa
