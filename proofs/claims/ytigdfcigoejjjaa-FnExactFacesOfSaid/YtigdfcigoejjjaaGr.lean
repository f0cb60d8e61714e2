/- Facts on graphs; degrees. No statement of the program is proved here. -/
import Derived.Test.YtigdfcigoejjjaaNe1
namespace Go.Proofs.Ytigdfcigoejjjaa
open Go.RowKit
set_option linter.unusedSimpArgs false
set_option linter.unusedVariables false
set_option maxRecDepth 20000

theorem idxF (x n : Nat) (h : x < n) : (0 : Int) ≤ (x : Int) ∧ (x : Int) < (n : Int) ∧ (x : Int).toNat = x := by omega
theorem wrapS (a b : Nat) (h : a + b ≤ 1000000) : wrap64 ((a : Int) + (b : Int)) = ((a + b : Nat) : Int) := by rw [wrap64_small (by omega) (by omega)]; omega

theorem wrapK (a b : Nat) (h : a + b ≤ 1000000) : IntKind.i64.wrap ((a : Int) + (b : Int)) = ((a + b : Nat) : Int) := by rw [IntWalk.i64_in _ (by omega)]; omega
theorem getD_mem {X : List Int} {k : Nat} (hk : k < X.length) : X.getD k 0 ∈ X := by
  simp [List.getD, hk]
theorem isGraphB_len {n : Int} {es : List (Int × Int)} (h : isGraphB n es = true) : es.length ≤ 30 := by
  have h1 := isGraphB_n h
  simp only [isGraphB, Bool.and_eq_true] at h
  have := (areEdgesB_in h.1).2.2.1
  omega
theorem isGraphB_ne {n : Int} {es : List (Int × Int)} (h : isGraphB n es = true) : 0 < es.length ∧ ∀ j, j < es.length → (es.getD j (0, 0)).1 ≠ (es.getD j (0, 0)).2 := by
  have h2 := h
  simp only [isGraphB, Bool.and_eq_true] at h2
  have h3 := areEdgesB_in h2.1
  exact ⟨by have := isGraphB_n h; omega, h3.2.2.2.2⟩
/-- A vertex's degree is the number of the edges on it, if no edge is a loop. -/
theorem degs_at {n : Nat} {es : List (Int × Int)} (hin : InN n es) (hne : ∀ j, j < es.length → (es.getD j (0, 0)).1 ≠ (es.getD j (0, 0)).2) {v : Nat} (hv : v < n) : ∀ k, k ≤ es.length → (degs n (es.take k)).getD v 0 = ((List.range k).filter fun j => onB (es.getD j (0, 0)) v).length
  | 0, _ => by simp [degs, List.getD, hv]
  | k + 1, hk => by
    have ih := degs_at hin hne hv k (by omega)
    obtain ⟨a, b, hab, ha, hb⟩ := hin k (by omega)
    have hn := hne k (by omega)
    rw [hab] at hn
    dsimp only at hn
    rw [take_snocE es k (by omega), hab, degs_snoc, List.range_succ, List.filter_append, List.length_append]
    simp only [Int.toNat_natCast]
    rw [incAt_getD, incAt_getD, incAt_getD, incAt_len, degs_len]
    have hon : onB (es.getD k (0, 0)) v = true ↔ (a = v ∨ b = v) := by
      rw [hab]; simp only [onB, Bool.or_eq_true, decide_eq_true_eq]; omega
    have hf : (([k].filter fun j => onB (es.getD j (0, 0)) v).length : Int) = if a = v ∨ b = v then 1 else 0 := by
      by_cases e : a = v ∨ b = v
      · rw [if_pos e, List.filter_cons, if_pos (hon.2 e)]; rfl
      · rw [if_neg e]
        have : onB (es.getD k (0, 0)) v = false := by
          cases h : onB (es.getD k (0, 0)) v
          · rfl
          · exact absurd (hon.1 h) e
        rw [List.filter_cons, if_neg (by rw [this]; decide)]; rfl
    rw [Int.natCast_add, hf, ← ih]
    by_cases ea : a = v
    · rw [if_neg (c := b = v ∧ b < n) (by omega), if_pos (c := a = v ∧ a < n) (by omega), if_pos (c := a = v ∨ b = v) (.inl ea), ea]
    · by_cases eb : b = v
      · rw [if_pos (c := b = v ∧ b < n) (by omega), if_neg (c := a = b ∧ a < n) (by omega), if_pos (c := a = v ∨ b = v) (.inr eb), eb]
      · rw [if_neg (c := b = v ∧ b < n) (by omega), if_neg (c := a = v ∧ a < n) (by omega), if_neg (c := a = v ∨ b = v) (by omega)]; omega
theorem three_at {n : Nat} {es : List (Int × Int)} (hin : InN n es) (hne : ∀ j, j < es.length → (es.getD j (0, 0)).1 ≠ (es.getD j (0, 0)).2) {v : Nat} (hv : v < n) (hd : (degs n es).getD v 0 = 3) :
    ∃ a b c : Nat, b < a ∧ c < b ∧ a < es.length ∧ onB (es.getD a (0, 0)) v = true ∧ onB (es.getD b (0, 0)) v = true ∧ onB (es.getD c (0, 0)) v = true := by
  have h1 := degs_at hin hne hv es.length (Nat.le_refl _)
  rw [List.take_length, hd] at h1
  have h2 : ((List.range es.length).filter fun j => onB (es.getD j (0, 0)) v).length = 3 := by omega
  have hp : (((List.range es.length).filter fun j => onB (es.getD j (0, 0)) v)).Pairwise (· < ·) := List.Pairwise.filter _ List.pairwise_lt_range
  have hm : ∀ x ∈ ((List.range es.length).filter fun j => onB (es.getD j (0, 0)) v), x < es.length ∧ onB (es.getD x (0, 0)) v = true := fun x hx => by
    rw [List.mem_filter, List.mem_range] at hx; exact hx
  generalize ((List.range es.length).filter fun j => onB (es.getD j (0, 0)) v) = F at *
  match F, h2, hp, hm with
  | [x0, x1, x2], _, hp, hm =>
    rw [List.pairwise_cons, List.pairwise_cons] at hp
    have a1 := hp.1 x1 (by simp)
    have a2 := hp.2.1 x2 (by simp)
    exact ⟨x2, x1, x0, a2, a1, (hm x2 (by simp)).1, (hm x2 (by simp)).2, (hm x1 (by simp)).2, (hm x0 (by simp)).2⟩
theorem near_of {a b : Int × Int} {v : Int} (ha : onB a v = true) (hb : onB b v = true) : nearB a b = true := by
  simp only [onB, nearB, Bool.or_eq_true, decide_eq_true_eq] at *
  omega
theorem graph_three {n : Int} {es : List (Int × Int)} (h : isGraphB n es = true) : ∃ a b c : Nat, b < a ∧ c < b ∧ a < es.length ∧ onB (es.getD a (0, 0)) 0 = true ∧ onB (es.getD b (0, 0)) 0 = true ∧ onB (es.getD c (0, 0)) 0 = true := by
  have h2 := h
  simp only [isGraphB, Bool.and_eq_true] at h2
  have h3 := areEdgesB_in h2.1
  have hn := isGraphB_n h
  have hd : (degs n.toNat es).getD 0 0 = 3 := by
    have hall := h2.2
    have key : ∀ xs : List Int, (xs.all fun k => decide (k = 3)) = true → 0 < xs.length → xs.getD 0 0 = 3 := fun xs hx hl => by
      rw [List.all_eq_true] at hx
      match xs, hl with
      | x :: xs, _ => simpa using hx x (by simp)
    refine key _ ?_ (by rw [degs_len]; omega)
    exact hall.2.2
  exact three_at (v := 0) h3.2.2.2.1 h3.2.2.2.2 (by omega) hd
end Go.Proofs.Ytigdfcigoejjjaa
