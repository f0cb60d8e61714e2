/- Three edges at a vertex; colours that do not depend on what lies above the diagonal. No statement of the program is proved here. -/
import Derived.Test.YtkpnplldnihalaaLp7
import Derived.Test.YtkpnplldnihalaaAt
import Derived.Test.YtkpnplldnihalaaIs5
namespace Go.Proofs.Ytkpnplldnihalaa
open Go.RowKit
set_option linter.unusedSimpArgs false
set_option linter.unusedVariables false
set_option maxRecDepth 20000

theorem nbr_congr {are are' : Nat → Nat → Bool} {i : Nat} (h : ∀ j, j < i → are i j = are' i j) : nbr are i = nbr are' i := by
  unfold nbr nbrTo
  congr 1
  refine List.filter_congr fun j hj => ?_
  exact h j (by simpa using hj)
theorem fillO_congr {are are' : Nat → Nat → Bool} {bad : Int → Int → Bool} {cand : List Int → Nat} {T : Nat} (h : ∀ i j, j < i → i < T → are i j = are' i j) : ∀ (r : Nat) (pre : List Int), pre.length + r = T → fillO are bad cand r pre = fillO are' bad cand r pre
  | 0, _, _ => rfl
  | r + 1, pre, hl => by
    rw [fillO, fillO]
    congr 1
    funext x
    have e : fitsB are bad pre (x : Int) = fitsB are' bad pre (x : Int) := by
      unfold fitsB
      rw [nbr_congr fun j hj => h pre.length j hj (by omega)]
    rw [e, fillO_congr h r _ (by simp; omega)]
theorem okK_congr {are are' : Nat → Nat → Bool} {T : Nat} (h : ∀ i j, j < i → i < T → are i j = are' i j) (k : Nat) : okK are T k = okK are' T k := by
  unfold okK
  rw [fillO_congr h T [] (by simp)]
/-- A vertex's degree is the number of the edges on it, if no edge is a loop. -/
theorem degs_at {n : Nat} {es : List (Int × Int)} (hin : InN n es) (hne : ∀ j, j < es.length → (es.getD j (0, 0)).1 ≠ (es.getD j (0, 0)).2) {v : Nat} (hv : v < n) : ∀ k, k ≤ es.length → (degs n (es.take k)).getD v 0 = ((List.range k).filter fun j => onB (es.getD j (0, 0)) v).length
  | 0, _ => by simp [degs, List.getD, hv]
  | k + 1, hk => by
    have ih := degs_at hin hne hv k (by omega)
    obtain ⟨a, b, hab, ha, hb⟩ := hin k (by omega)
    have hn := hne k (by omega)
    rw [hab] at hn
    dsimp only at hn
    rw [take_snocE es k (by omega), hab, degs_snoc, List.range_succ, List.filter_append, List.length_append]
    simp only [Int.toNat_natCast]
    rw [incAt_getD, incAt_getD, incAt_getD, incAt_len, degs_len]
    have hon : onB (es.getD k (0, 0)) v = true ↔ (a = v ∨ b = v) := by
      rw [hab]; simp only [onB, Bool.or_eq_true, decide_eq_true_eq]; omega
    have hf : (([k].filter fun j => onB (es.getD j (0, 0)) v).length : Int) = if a = v ∨ b = v then 1 else 0 := by
      by_cases e : a = v ∨ b = v
      · rw [if_pos e, List.filter_cons, if_pos (hon.2 e)]; rfl
      · rw [if_neg e]
        have : onB (es.getD k (0, 0)) v = false := by
          cases h : onB (es.getD k (0, 0)) v
          · rfl
          · exact absurd (hon.1 h) e
        rw [List.filter_cons, if_neg (by rw [this]; decide)]; rfl
    rw [Int.natCast_add, hf, ← ih]
    by_cases ea : a = v
    · rw [if_neg (c := b = v ∧ b < n) (by omega), if_pos (c := a = v ∧ a < n) (by omega), if_pos (c := a = v ∨ b = v) (.inl ea), ea]
    · by_cases eb : b = v
      · rw [if_pos (c := b = v ∧ b < n) (by omega), if_neg (c := a = b ∧ a < n) (by omega), if_pos (c := a = v ∨ b = v) (.inr eb), eb]
      · rw [if_neg (c := b = v ∧ b < n) (by omega), if_neg (c := a = v ∧ a < n) (by omega), if_neg (c := a = v ∨ b = v) (by omega)]; omega
theorem three_at {n : Nat} {es : List (Int × Int)} (hin : InN n es) (hne : ∀ j, j < es.length → (es.getD j (0, 0)).1 ≠ (es.getD j (0, 0)).2) {v : Nat} (hv : v < n) (hd : (degs n es).getD v 0 = 3) :
    ∃ a b c : Nat, b < a ∧ c < b ∧ a < es.length ∧ onB (es.getD a (0, 0)) v = true ∧ onB (es.getD b (0, 0)) v = true ∧ onB (es.getD c (0, 0)) v = true := by
  have h1 := degs_at hin hne hv es.length (Nat.le_refl _)
  rw [List.take_length, hd] at h1
  have h2 : ((List.range es.length).filter fun j => onB (es.getD j (0, 0)) v).length = 3 := by omega
  have hp : (((List.range es.length).filter fun j => onB (es.getD j (0, 0)) v)).Pairwise (· < ·) := List.Pairwise.filter _ List.pairwise_lt_range
  have hm : ∀ x ∈ ((List.range es.length).filter fun j => onB (es.getD j (0, 0)) v), x < es.length ∧ onB (es.getD x (0, 0)) v = true := fun x hx => by
    rw [List.mem_filter, List.mem_range] at hx; exact hx
  generalize ((List.range es.length).filter fun j => onB (es.getD j (0, 0)) v) = F at *
  match F, h2, hp, hm with
  | [x0, x1, x2], _, hp, hm =>
    rw [List.pairwise_cons, List.pairwise_cons] at hp
    have a1 := hp.1 x1 (by simp)
    have a2 := hp.2.1 x2 (by simp)
    exact ⟨x2, x1, x0, a2, a1, (hm x2 (by simp)).1, (hm x2 (by simp)).2, (hm x1 (by simp)).2, (hm x0 (by simp)).2⟩
theorem near_of {a b : Int × Int} {v : Int} (ha : onB a v = true) (hb : onB b v = true) : nearB a b = true := by
  simp only [onB, nearB, Bool.or_eq_true, decide_eq_true_eq] at *
  omega
end Go.Proofs.Ytkpnplldnihalaa
