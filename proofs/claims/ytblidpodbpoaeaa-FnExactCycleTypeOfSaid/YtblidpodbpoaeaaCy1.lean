/- Cycle types: the plain law. No statement of the program is proved here. -/
import Derived.Test.YtblidpodbpoaeaaSi1
import Derived.Test.YtblidpodbpoaeaaOr1
namespace Go.Proofs.Ytblidpodbpoaeaa
open Go.RowKit
set_option linter.unusedSimpArgs false
set_option linter.unusedVariables false
set_option maxRecDepth 20000

/-- Along a cycle, while nothing is met twice: how many, and the set then. -/
def cyc (xs : List Int) : Nat → Nat → Nat → Nat × Nat
  | 0, S, _ => (0, S)
  | f + 1, S, u => if S.testBit u then (0, S) else ((cyc xs f (S ||| 2 ^ u) (xs.getD u 0).toNat).1 + 1, (cyc xs f (S ||| 2 ^ u) (xs.getD u 0).toNat).2)
theorem cyc_stop {xs : List Int} {f S u : Nat} (h : S.testBit u = true) : cyc xs f S u = (0, S) := by
  cases f
  · rfl
  · rw [cyc, if_pos h]
theorem cyc_go {xs : List Int} {f S u : Nat} (h : S.testBit u = false) : cyc xs (f + 1) S u = ((cyc xs f (S ||| 2 ^ u) (xs.getD u 0).toNat).1 + 1, (cyc xs f (S ||| 2 ^ u) (xs.getD u 0).toNat).2) := by
  rw [cyc, if_neg (by rw [h]; decide)]
theorem bit_set (S u j : Nat) : (S ||| 2 ^ u).testBit j = (S.testBit j || decide (j = u)) := by
  rw [Nat.testBit_or, Nat.testBit_two_pow]
  congr 1
  rw [decide_eq_decide]
  exact ⟨Eq.symm, Eq.symm⟩
theorem shC_succ (S n : Nat) : shC S (n + 1) = shC S n + (if S.testBit n then 1 else 0) := by
  unfold shC
  rw [List.range_succ, List.filter_append, List.length_append]
  cases h : S.testBit n <;> simp [h]
theorem shC_above {S u : Nat} : ∀ {n : Nat}, n ≤ u → shC (S ||| 2 ^ u) n = shC S n
  | 0, _ => rfl
  | n + 1, h => by
    rw [shC_succ, shC_succ, shC_above (by omega), bit_set]
    have : decide (n = u) = false := by simp; omega
    rw [this, Bool.or_false]
theorem shC_set {S u : Nat} (hS : S.testBit u = false) : ∀ {n : Nat}, u < n → shC (S ||| 2 ^ u) n = shC S n + 1
  | 0, h => by omega
  | n + 1, h => by
    rw [shC_succ, shC_succ, bit_set]
    by_cases e : n = u
    · subst e
      rw [shC_above (Nat.le_refl _), hS]; simp
    · have h1 : decide (n = u) = false := by simp [e]
      rw [shC_set hS (by omega), h1, Bool.or_false]; omega
theorem set_lt {S u n : Nat} (hS : S < 2 ^ n) (hu : u < n) : S ||| 2 ^ u < 2 ^ n := Nat.or_lt_two_pow hS (Nat.pow_lt_pow_right (by decide) hu)
/-- All entries lie below n. -/
def Inx (xs : List Int) (n : Nat) : Prop := ∀ v, v < n → 0 ≤ xs.getD v 0 ∧ xs.getD v 0 < (n : Int)
theorem cyc_bound {xs : List Int} {n : Nat} (hin : Inx xs n) : ∀ (f S u : Nat), u < n → S < 2 ^ n → (cyc xs f S u).1 + shC S n ≤ n ∧ (cyc xs f S u).2 < 2 ^ n
  | 0, S, u, _, hS => ⟨by have := shC_le S n; simpa [cyc] using this, by simpa [cyc] using hS⟩
  | f + 1, S, u, hu, hS => by
    cases h : S.testBit u
    · rw [cyc_go h]
      have h1 := hin u hu
      have h2 := cyc_bound hin f (S ||| 2 ^ u) (xs.getD u 0).toNat (by omega) (set_lt hS hu)
      rw [shC_set h hu] at h2
      exact ⟨by dsimp only; omega, h2.2⟩
    · rw [cyc_stop h]; exact ⟨by have := shC_le S n; simpa using this, hS⟩

def toF (c : Nat) : Fin 64 := ⟨c % 64, Nat.mod_lt _ (by decide)⟩
theorem toF_val {c : Nat} (h : c < 64) : (toF c).val = c := Nat.mod_eq_of_lt h
/-- The set and the lengths of the cycles behind v vertices. -/
def cycO (xs : List Int) (n : Nat) : Nat → Nat × List (Fin 64)
  | 0 => (0, [])
  | v + 1 => ((cyc xs (n + 1) (cycO xs n v).1 v).2, if (cyc xs (n + 1) (cycO xs n v).1 v).1 = 0 then (cycO xs n v).2 else (cycO xs n v).2 ++ [toF (cyc xs (n + 1) (cycO xs n v).1 v).1])
theorem cycO_lt {xs : List Int} {n : Nat} (hin : Inx xs n) : ∀ v, v ≤ n → (cycO xs n v).1 < 2 ^ n
  | 0, _ => Nat.pow_pos (by decide)
  | v + 1, h => (cyc_bound hin _ _ _ (by omega) (cycO_lt hin v (by omega))).2
theorem cycO_len (xs : List Int) (n : Nat) : ∀ v, (cycO xs n v).2.length ≤ v
  | 0 => Nat.le_refl _
  | v + 1 => by
    have := cycO_len xs n v
    rw [cycO]
    dsimp only
    split
    · omega
    · rw [List.length_append]; simp; omega

theorem cycO_pos (xs : List Int) (n : Nat) : ∀ v, 1 ≤ v → 0 < (cycO xs n v).2.length
  | 0, h => by omega
  | v + 1, _ => by
    by_cases hv : 1 ≤ v
    · have := cycO_pos xs n v hv
      rw [cycO]
      dsimp only
      split
      · exact this
      · rw [List.length_append]; omega
    · obtain rfl : v = 0 := by omega
      rw [cycO]
      dsimp only
      have h0 : (cycO xs n 0).1.testBit 0 = false := by simp [cycO]
      rw [cyc_go h0, if_neg (by dsimp only; omega), List.length_append]; simp
/-- The place behind the last that is not less. -/
def atD (out : List Int) (c : Int) : Nat → Nat
  | 0 => 0
  | k + 1 => if out.getD k 0 < c then atD out c k else k + 1
theorem atD_le (out : List Int) (c : Int) : ∀ k, atD out c k ≤ k
  | 0 => Nat.le_refl _
  | k + 1 => by rw [atD]; split; have := atD_le out c k; omega; exact Nat.le_refl _
theorem atD_lt (out : List Int) (c : Int) : ∀ k i, atD out c k ≤ i → i < k → out.getD i 0 < c
  | 0, i, _, h => by omega
  | k + 1, i, h1, h2 => by
    rw [atD] at h1
    split at h1
    · rename_i h
      by_cases e : i = k
      · subst e; exact h
      · exact atD_lt out c k i h1 (by omega)
    · omega
theorem atD_ge (out : List Int) (c : Int) : ∀ k, 0 < atD out c k → c ≤ out.getD (atD out c k - 1) 0
  | 0, h => by simp [atD] at h
  | k + 1, h => by
    rw [atD] at h ⊢
    split
    · rename_i h1; rw [if_pos h1] at h; exact atD_ge out c k h
    · rename_i h1; show c ≤ out.getD (k + 1 - 1) 0; rw [Nat.add_sub_cancel]; omega
def insD (out : List Int) (c : Int) : List Int := out.take (atD out c out.length) ++ c :: out.drop (atD out c out.length)
theorem insD_perm (out : List Int) (c : Int) : (insD out c).Perm (out ++ [c]) := by
  unfold insD
  have h1 : (out.take (atD out c out.length) ++ c :: out.drop (atD out c out.length)).Perm (c :: (out.take (atD out c out.length) ++ out.drop (atD out c out.length))) := List.perm_middle
  rw [List.take_append_drop] at h1
  exact h1.trans (List.perm_append_singleton c out).symm
theorem insD_sorted {out : List Int} (hs : out.Pairwise (fun a b => a ≥ b)) (c : Int) : (insD out c).Pairwise (fun a b => a ≥ b) := by
  have hk := atD_le out c out.length
  have h1 := atD_lt out c out.length
  have h2 := atD_ge out c out.length
  unfold insD
  generalize atD out c out.length = k at *
  have hs2 := hs
  rw [← List.take_append_drop k out, List.pairwise_append] at hs2
  obtain ⟨p1, p2, p3⟩ := hs2
  have hge : ∀ a ∈ out.take k, a ≥ c := fun a ha => by
    obtain ⟨i, hi, rfl⟩ := List.mem_iff_getElem.1 ha
    have hi2 : i < k := by simp at hi; omega
    have hkl : k - 1 < out.length := by omega
    have h4 := h2 (by omega)
    have e1 : out.getD (k - 1) 0 = out[k - 1] := by simp [List.getD, hkl]
    rw [e1] at h4
    rw [List.getElem_take]
    by_cases e : i = k - 1
    · subst e; exact h4
    · have := List.pairwise_iff_getElem.1 hs i (k - 1) (by omega) hkl (by omega)
      omega
  have hlt : ∀ b ∈ out.drop k, c ≥ b := fun b hb => by
    obtain ⟨i, hi, rfl⟩ := List.mem_iff_getElem.1 hb
    have hi2 : k + i < out.length := by simp at hi; omega
    have := h1 (k + i) (by omega) hi2
    have e1 : out.getD (k + i) 0 = out[k + i] := by simp [List.getD, hi2]
    rw [List.getElem_drop]
    omega
  rw [List.pairwise_append]
  refine ⟨p1, ?_, fun a ha b hb => ?_⟩
  · rw [List.pairwise_cons]; exact ⟨fun b hb => hlt b hb, p2⟩
  · simp only [List.mem_cons] at hb
    rcases hb with rfl | hb
    · exact hge a ha
    · exact p3 a ha b hb
/-- The reference's list. -/
def cycS (xs : List Int) (n : Nat) : Nat → List Int
  | 0 => []
  | v + 1 => if (cyc xs (n + 1) (cycO xs n v).1 v).1 = 0 then cycS xs n v else insD (cycS xs n v) ((cyc xs (n + 1) (cycO xs n v).1 v).1 : Nat)
theorem valD_snoc (L : List (Fin 64)) {c : Nat} (h : c < 64) : valD (L ++ [toF c]) = valD L ++ [(c : Int)] := by simp [valD, toF_val h]
theorem insD_len (out : List Int) (c : Int) : (insD out c).length = out.length + 1 := by rw [(insD_perm out c).length_eq]; simp
theorem cycS_spec {xs : List Int} {n : Nat} (hn : n < 64) (hin : Inx xs n) : ∀ v, v ≤ n → (cycS xs n v).Perm (valD (cycO xs n v).2) ∧ (cycS xs n v).Pairwise (fun a b => a ≥ b)
  | 0, _ => ⟨List.Perm.refl _, List.Pairwise.nil⟩
  | v + 1, h => by
    obtain ⟨h1, h2⟩ := cycS_spec hn hin v (by omega)
    have hb := (cyc_bound hin (n + 1) _ v (by omega) (cycO_lt hin v (by omega))).1
    rw [cycS, cycO]
    dsimp only
    split
    · exact ⟨h1, h2⟩
    · rw [valD_snoc _ (by omega)]
      exact ⟨(insD_perm _ _).trans (h1.append_right _), insD_sorted h2 _⟩
theorem cycS_eq {xs : List Int} {n : Nat} (hn : n < 64) (hin : Inx xs n) : cycS xs n n = valD (sortD (cycO xs n n).2) := by
  obtain ⟨h1, h2⟩ := cycS_spec hn hin n (Nat.le_refl _)
  refine List.Perm.eq_of_pairwise (le := fun a b => a ≥ b) (fun a b _ _ h3 h4 => by omega) h2 (sortD_sorted _) (h1.trans ?_)
  unfold valD
  exact ((sortD_perm _).map _).symm
/-- The cycle type and the code. -/
def cycV (xs : List Int) : List Int × Int := if inB (xs.length : Int) 1 20 = true ∧ permB xs xs.length = true then (valD (sortD (cycO xs xs.length xs.length).2), 0) else ([], 2)
theorem cycV_len (xs : List Int) : (cycV xs).1.length ≤ 20 := by
  unfold cycV
  split
  · rename_i h
    have h1 := inB_true.1 h.1
    have h2 := cycO_len xs xs.length xs.length
    simp only [valD, List.length_map, sortD_len]
    omega
  · simp
theorem permB_in {xs : List Int} (h : permB xs xs.length = true) : Inx xs xs.length := fun v hv => by
  simp only [permB, Bool.and_eq_true] at h
  exact inB_all h.1.2 _ (getD_mem hv)
end Go.Proofs.Ytblidpodbpoaeaa
