/- The determinant by elimination without fractions: the plain law. No statement of the program is proved here. -/
import Derived.Test.YtkpnplldnihalaaMat
namespace Go.Proofs.Ytkpnplldnihalaa
open Go.RowKit
set_option linter.unusedSimpArgs false
set_option linter.unusedVariables false
set_option maxRecDepth 20000

/-- A new entry; the matrix's columns begin at f. -/
def stepV (f k : Nat) (l : Int) (M : Nat → Nat → Int) (a b : Nat) : Int := wrap64 ((wrap64 (wrap64 (M a b * M k (k + f)) - wrap64 (M a (k + f) * M k b))).tdiv l)
/-- The rows below k: those below i are done, and in row i the columns below j. With z, the column k of the rows done is 0. -/
def elimTo (z : Bool) (f k : Nat) (l : Int) (M : Nat → Nat → Int) (i j : Nat) : Nat → Nat → Int := fun a b =>
  if k < a ∧ k + f < b ∧ (a < i ∨ (a = i ∧ b < j + f)) then stepV f k l M a b else if z = true ∧ k < a ∧ a < i ∧ b = k + f then 0 else M a b
theorem elimTo_start (z : Bool) (f k : Nat) (l : Int) (M : Nat → Nat → Int) : elimTo z f k l M (k + 1) (k + 1) = M := by
  funext a b
  unfold elimTo
  rw [if_neg (by omega), if_neg (by omega)]
theorem elimTo_pivot (z : Bool) {f k : Nat} {l : Int} {M : Nat → Nat → Int} {i j b : Nat} : elimTo z f k l M i j k b = M k b := by
  unfold elimTo
  rw [if_neg (by omega), if_neg (by omega)]
theorem elimTo_col (z : Bool) {f k : Nat} {l : Int} {M : Nat → Nat → Int} {i j : Nat} : elimTo z f k l M i j i (k + f) = M i (k + f) := by
  unfold elimTo
  rw [if_neg (by omega), if_neg (by omega)]
theorem elimTo_own (z : Bool) {f k : Nat} {l : Int} {M : Nat → Nat → Int} {i j : Nat} (hj : k < j) : elimTo z f k l M i j i (j + f) = M i (j + f) := by
  unfold elimTo
  rw [if_neg (by omega), if_neg (by omega)]
theorem elimTo_put (z : Bool) {f k : Nat} {l : Int} {M : Nat → Nat → Int} {i j : Nat} (hi : k < i) (hj : k < j) : putM (elimTo z f k l M i j) i (j + f) (stepV f k l M i (j + f)) = elimTo z f k l M i (j + 1) := by
  funext a b
  unfold putM elimTo
  by_cases e : a = i ∧ b = j + f
  · obtain ⟨rfl, rfl⟩ := e
    rw [if_pos ⟨rfl, rfl⟩, if_pos (by omega)]
  · rw [if_neg e]
    by_cases h : k < a ∧ k + f < b ∧ (a < i ∨ (a = i ∧ b < j + f))
    · rw [if_pos h, if_pos (by omega)]
    · rw [if_neg h, if_neg (c := k < a ∧ k + f < b ∧ (a < i ∨ (a = i ∧ b < j + 1 + f))) (by omega)]
theorem elimTo_row {f k : Nat} {l : Int} {M : Nat → Nat → Int} {i n a b : Nat} (hb : b < n + f) : elimTo false f k l M i n a b = elimTo false f k l M (i + 1) (k + 1) a b := by
  unfold elimTo
  by_cases h : k < a ∧ k + f < b ∧ (a < i ∨ (a = i ∧ b < n + f))
  · rw [if_pos h, if_pos (by omega)]
  · rw [if_neg h, if_neg (c := k < a ∧ k + f < b ∧ (a < i + 1 ∨ (a = i + 1 ∧ b < k + 1 + f))) (by omega)]
    simp
theorem elimTo_row0 {f k : Nat} {l : Int} {M : Nat → Nat → Int} {i n a b : Nat} (hi : k < i) (hb : b < n + f) : putM (elimTo true f k l M i n) i (k + f) 0 a b = elimTo true f k l M (i + 1) (k + 1) a b := by
  unfold putM elimTo
  by_cases e : a = i ∧ b = k + f
  · obtain ⟨rfl, rfl⟩ := e
    rw [if_pos ⟨rfl, rfl⟩, if_neg (by omega), if_pos (by simp; omega)]
  · rw [if_neg e]
    by_cases h : k < a ∧ k + f < b ∧ (a < i ∨ (a = i ∧ b < n + f))
    · rw [if_pos h, if_pos (by omega)]
    · rw [if_neg h, if_neg (c := k < a ∧ k + f < b ∧ (a < i + 1 ∨ (a = i + 1 ∧ b < k + 1 + f))) (by omega)]
      by_cases h2 : k < a ∧ a < i ∧ b = k + f
      · rw [if_pos ⟨rfl, h2⟩, if_pos ⟨rfl, by omega⟩]
      · rw [if_neg (fun h => h2 h.2), if_neg (fun h => by have := h.2; omega)]

/-- The first row from k on that is not 0 in its column. -/
def pivotOf (f n k : Nat) (M : Nat → Nat → Int) : Option Nat := (List.range n).find? fun i => decide (k ≤ i) && !decide (M i (k + f) = 0)
theorem pivotOf_some {f n k i : Nat} {M : Nat → Nat → Int} (hk : k ≤ i) (hi : i < n) (h0 : M i (k + f) ≠ 0) (hb : ∀ j, k ≤ j → j < i → M j (k + f) = 0) : pivotOf f n k M = some i := by
  unfold pivotOf
  rw [List.find?_range_eq_some]
  refine ⟨by simp [hk, h0], by simpa using hi, fun j hj => ?_⟩
  by_cases e : k ≤ j
  · simp [e, hb j e hj]
  · simp [e]
theorem pivotOf_none {f n k : Nat} {M : Nat → Nat → Int} (hb : ∀ j, k ≤ j → j < n → M j (k + f) = 0) : pivotOf f n k M = none := by
  unfold pivotOf
  rw [List.find?_eq_none]
  intro j hj
  have hj : j < n := by simpa using hj
  by_cases e : k ≤ j
  · simp [hb j e hj]
  · simp [e]
theorem pivotOf_congr {f1 f2 n k : Nat} {M1 M2 : Nat → Nat → Int} (h : ∀ a, k ≤ a → a < n → M1 a (k + f1) = M2 a (k + f2)) : pivotOf f1 n k M1 = pivotOf f2 n k M2 := by
  unfold pivotOf
  have : ∀ (xs : List Nat), (∀ i, i ∈ xs → i < n) → xs.find? (fun i => decide (k ≤ i) && !decide (M1 i (k + f1) = 0)) = xs.find? (fun i => decide (k ≤ i) && !decide (M2 i (k + f2) = 0)) := by
    intro xs
    induction xs with
    | nil => intro _; rfl
    | cons a xs ih =>
      intro hx
      have ha := hx a (by simp)
      have e : (decide (k ≤ a) && !decide (M1 a (k + f1) = 0)) = (decide (k ≤ a) && !decide (M2 a (k + f2) = 0)) := by
        by_cases e : k ≤ a
        · rw [h a e ha]
        · simp [e]
      simp only [List.find?_cons, e]
      rw [ih fun i hi => hx i (by simp [hi])]
  exact this _ fun i hi => by simpa using hi

/-- The determinant of the rows and columns from k on, when the sign is s and the last pivot l. -/
def detF (f n : Nat) : Nat → Nat → (Nat → Nat → Int) → Int → Int → Int
  | 0, _, _, s, l => wrap64 (s * l)
  | m + 1, k, M, s, l => match pivotOf f n k M with
    | none => 0
    | some i => detF f n m (k + 1) (elimTo false f k l (swapF M i k) n (k + 1)) (if i = k then s else wrap64 (-s)) (swapF M i k k (k + f))
theorem detF_done (f n : Nat) (M : Nat → Nat → Int) (s l : Int) : detF f n (n - n) n M s l = wrap64 (s * l) := by rw [Nat.sub_self]; rfl
theorem detF_zero {f n k : Nat} {M : Nat → Nat → Int} {s l : Int} (hk : k < n) (hb : ∀ j, k ≤ j → j < n → M j (k + f) = 0) : detF f n (n - k) k M s l = 0 := by
  obtain ⟨m, hm⟩ : ∃ m, n - k = m + 1 := ⟨n - k - 1, by omega⟩
  rw [hm, detF, pivotOf_none hb]
theorem detF_congr {f1 f2 n : Nat} : ∀ (m k : Nat) (M1 M2 : Nat → Nat → Int) (s l : Int), k + m ≤ n → (∀ a b, k ≤ a → a < n → k ≤ b → b < n → M1 a (b + f1) = M2 a (b + f2)) → detF f1 n m k M1 s l = detF f2 n m k M2 s l
  | 0, _, _, _, _, _, _, _ => rfl
  | m + 1, k, M1, M2, s, l, hm, h => by
    rw [detF, detF, pivotOf_congr (f1 := f1) (f2 := f2) (M1 := M1) (M2 := M2) fun a ha hn => h a k ha hn (Nat.le_refl _) (by omega)]
    cases hp : pivotOf f2 n k M2 with
    | none => rfl
    | some i =>
      obtain ⟨hk, hi⟩ : k ≤ i ∧ i < n := by
        rw [pivotOf, List.find?_range_eq_some] at hp
        obtain ⟨h1, h2, _⟩ := hp
        simp at h1 h2
        exact ⟨h1.1, h2⟩
      have hs : ∀ a b, k ≤ a → a < n → k ≤ b → b < n → swapF M1 i k a (b + f1) = swapF M2 i k a (b + f2) := by
        intro a b h1 h2 h3 h4
        unfold swapF
        split
        · exact h k b (Nat.le_refl _) (by omega) h3 h4
        · split
          · exact h i b hk hi h3 h4
          · exact h a b h1 h2 h3 h4
      dsimp only
      rw [hs k k (Nat.le_refl _) (by omega) (Nat.le_refl _) (by omega)]
      refine detF_congr m (k + 1) _ _ _ _ (by omega) fun a b h1 h2 h3 h4 => ?_
      unfold elimTo
      rw [if_pos (by omega), if_pos (by omega)]
      unfold stepV
      rw [hs a b (by omega) h2 (by omega) h4, hs k k (Nat.le_refl _) (by omega) (Nat.le_refl _) (by omega), hs a k (by omega) h2 (Nat.le_refl _) (by omega), hs k b (Nat.le_refl _) (by omega) (by omega) h4]
/-- One round: the rows' memory E agrees with the elimination from row and column k + 1 on. -/
theorem detF_step {f n k i : Nat} {M E : Nat → Nat → Int} {s l : Int} (hk : k ≤ i) (hi : i < n) (h0 : M i (k + f) ≠ 0) (hb : ∀ j, k ≤ j → j < i → M j (k + f) = 0) {z : Bool}
    (hE : E = elimTo z f k l (swapF M i k) n (k + 1)) : detF f n (n - k) k M s l = detF f n (n - (k + 1)) (k + 1) E (if i = k then s else wrap64 (-s)) (swapF M i k k (k + f)) := by
  obtain ⟨m, hm⟩ : ∃ m, n - k = m + 1 := ⟨n - k - 1, by omega⟩
  have hm2 : n - (k + 1) = m := by omega
  rw [hm, hm2, detF, pivotOf_some hk hi h0 hb]
  refine detF_congr m (k + 1) _ _ _ _ (by omega) fun a b h1 h2 h3 h4 => ?_
  subst hE
  unfold elimTo
  rw [if_pos (by omega), if_pos (by omega)]
theorem swapF_pivot {f k i : Nat} {M : Nat → Nat → Int} : swapF M i k k (k + f) = M i (k + f) := by
  unfold swapF; split
  · subst_vars; rfl
  · simp
theorem swapF_comm {α : Type} (R : Nat → α) (i k : Nat) : swapF R i k = swapF R k i := by
  funext a; unfold swapF
  by_cases e : a = i
  · by_cases e2 : a = k
    · rw [if_pos e, if_pos e2, ← e, ← e2]
    · rw [if_pos e, if_neg e2, if_pos e]
  · by_cases e2 : a = k
    · rw [if_neg e, if_pos e2, if_pos e2]
    · rw [if_neg e, if_neg e2, if_neg e2, if_neg e]
end Go.Proofs.Ytkpnplldnihalaa
