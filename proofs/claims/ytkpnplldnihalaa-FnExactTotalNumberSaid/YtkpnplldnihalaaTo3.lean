/- The reference's rows of things that need different numbers, vertices among them: l08Rows. -/
import Derived.Test.YtkpnplldnihalaaTo2
import Derived.Test.YtkpnplldnihalaaSt3
namespace Go.Proofs.Ytkpnplldnihalaa
open Go.RowKit
set_option linter.unusedSimpArgs false
set_option linter.unusedVariables false
set_option maxRecDepth 20000

/-- Below the diagonal, the ones of M are where P holds. -/
def RelP (T : Nat) (M : Nat → Nat → Int) (P : Nat → Nat → Prop) : Prop := ∀ i j, j < i → i < T → ((M i j = 0 ∨ M i j = 1) ∧ (M i j = 1 ↔ P i j))
theorem RelP.put {T : Nat} {M : Nat → Nat → Int} {P : Nat → Nat → Prop} (h : RelP T M P) (a b : Nat) : RelP T (putM M a b 1) (fun i j => P i j ∨ (i = a ∧ j = b)) := fun i j h1 h2 => by
  obtain ⟨h3, h4⟩ := h i j h1 h2
  unfold putM
  by_cases e : i = a ∧ j = b
  · rw [if_pos e]; simp [e]
  · rw [if_neg e]; exact ⟨h3, by rw [h4]; simp [e]⟩
theorem RelP.iff {T : Nat} {M : Nat → Nat → Int} {P Q : Nat → Nat → Prop} (h : RelP T M P) (hq : ∀ i j, j < i → i < T → (P i j ↔ Q i j)) : RelP T M Q := fun i j h1 h2 => ⟨(h i j h1 h2).1, (h i j h1 h2).2.trans (hq i j h1 h2)⟩
/-- What the edges below e tell. -/
def baseT (N : Nat) (es : List (Int × Int)) (e i j : Nat) : Prop :=
  (i < N ∧ joinB (es.take e) i j = true) ∨ (N ≤ i ∧ i - N < e ∧ j < N ∧ onB (es.getD (i - N) (0, 0)) j = true) ∨ (N ≤ i ∧ i - N < e ∧ N ≤ j ∧ nearB (es.getD (i - N) (0, 0)) (es.getD (j - N) (0, 0)) = true)
/-- And the edges below f of those that are near e. -/
def nearT (N : Nat) (es : List (Int × Int)) (e f i j : Nat) : Prop := baseT N es e i j ∨ (i = N + e ∧ N ≤ j ∧ j - N < f ∧ nearAre es e (j - N) = true)
theorem nearT_zero (N : Nat) (es : List (Int × Int)) (i j : Nat) : ¬ nearT N es 0 0 i j := by
  unfold nearT baseT joinB
  simp
theorem nearT_no {N : Nat} {es : List (Int × Int)} {e f i j : Nat} (h : nearAre es e f = false) : nearT N es e f i j ↔ nearT N es e (f + 1) i j := by
  unfold nearT
  constructor
  · rintro (h1 | ⟨h1, h2, h3, h4⟩)
    · exact .inl h1
    · exact .inr ⟨h1, h2, by omega, h4⟩
  · rintro (h1 | ⟨h1, h2, h3, h4⟩)
    · exact .inl h1
    · refine .inr ⟨h1, h2, ?_, h4⟩
      by_cases e2 : j - N = f
      · rw [e2, h] at h4; exact absurd h4 (by decide)
      · omega
theorem nearT_yes {N : Nat} {es : List (Int × Int)} {e f i j : Nat} (hf : f < e) (hji : j < i) (h : nearAre es e f = true) :
    ((nearT N es e f i j ∨ (i = N + e ∧ j = N + f)) ∨ (i = N + f ∧ j = N + e)) ↔ nearT N es e (f + 1) i j := by
  unfold nearT
  constructor
  · rintro (((h1 | ⟨h1, h2, h3, h4⟩) | ⟨h1, h2⟩) | ⟨h1, h2⟩)
    · exact .inl h1
    · exact .inr ⟨h1, h2, by omega, h4⟩
    · refine .inr ⟨h1, by omega, by omega, ?_⟩
      rw [show j - N = f by omega]; exact h
    · omega
  · rintro (h1 | ⟨h1, h2, h3, h4⟩)
    · exact .inl (.inl (.inl h1))
    · by_cases e2 : j - N = f
      · exact .inl (.inr ⟨h1, by omega⟩)
      · exact .inl (.inl (.inr ⟨h1, h2, by omega, h4⟩))
theorem joinB_take {es : List (Int × Int)} {e : Nat} (he : e < es.length) (a b : Int) : joinB (es.take (e + 1)) a b = (joinB (es.take e) a b || ((decide ((es.getD e (0, 0)).1 = a) && decide ((es.getD e (0, 0)).2 = b)) || (decide ((es.getD e (0, 0)).2 = a) && decide ((es.getD e (0, 0)).1 = b)))) := by
  have h : es.getD e (0, 0) = es[e] := by simp [List.getD, he]
  rw [joinB, List.take_add_one, List.getElem?_eq_getElem he, List.any_append, h]
  simp [joinB]
/-- After the two rounds at e. -/
def roundT (N : Nat) (es : List (Int × Int)) (e x y : Nat) (k : Int) (i j : Nat) : Prop :=
  nearT N es e e i j ∨ (0 < k ∧ ((i = x ∧ j = y) ∨ (i = x ∧ j = N + e) ∨ (i = N + e ∧ j = x))) ∨ (1 < k ∧ ((i = y ∧ j = x) ∨ (i = y ∧ j = N + e) ∨ (i = N + e ∧ j = y)))
theorem roundT_all {N : Nat} {es : List (Int × Int)} {e x y i j : Nat} (he : e < es.length) (hx : x < N) (hy : y < N) (hxy : es.getD e (0, 0) = ((x : Int), (y : Int))) (hji : j < i) :
    roundT N es e x y 2 i j ↔ nearT N es (e + 1) 0 i j := by
  have hj := joinB_take he (i : Int) (j : Int)
  rw [hxy] at hj
  dsimp only at hj
  unfold roundT nearT baseT
  rw [hj]
  simp only [Bool.or_eq_true, Bool.and_eq_true, decide_eq_true_eq]
  have on1 : ∀ j : Nat, onB (es.getD e (0, 0)) (j : Int) = true ↔ (j = x ∨ j = y) := fun j => by
    rw [hxy]; simp only [onB, Bool.or_eq_true, decide_eq_true_eq]; omega
  have near1 : ∀ j, nearAre es e j = nearB (es.getD e (0, 0)) (es.getD j (0, 0)) := fun _ => rfl
  constructor
  · rintro (((⟨h1, h2⟩ | ⟨h1, h2, h3, h4⟩ | ⟨h1, h2, h3, h4⟩) | ⟨h1, h2, h3, h4⟩) | ⟨_, h⟩ | ⟨_, h⟩)
    · exact .inl (.inl ⟨h1, .inl h2⟩)
    · exact .inl (.inr (.inl ⟨h1, by omega, h3, h4⟩))
    · exact .inl (.inr (.inr ⟨h1, by omega, h3, h4⟩))
    · refine .inl (.inr (.inr ⟨by omega, by omega, h2, ?_⟩))
      rw [show i - N = e by omega, ← near1]; exact h4
    · rcases h with ⟨h1, h2⟩ | ⟨h1, h2⟩ | ⟨h1, h2⟩
      · exact .inl (.inl ⟨by omega, .inr (.inl ⟨by omega, by omega⟩)⟩)
      · omega
      · refine .inl (.inr (.inl ⟨by omega, by omega, by omega, ?_⟩))
        rw [show i - N = e by omega, on1]; exact .inl h2
    · rcases h with ⟨h1, h2⟩ | ⟨h1, h2⟩ | ⟨h1, h2⟩
      · exact .inl (.inl ⟨by omega, .inr (.inr ⟨by omega, by omega⟩)⟩)
      · omega
      · refine .inl (.inr (.inl ⟨by omega, by omega, by omega, ?_⟩))
        rw [show i - N = e by omega, on1]; exact .inr h2
  · rintro ((⟨h1, h2 | ⟨h2, h3⟩ | ⟨h2, h3⟩⟩ | ⟨h1, h2, h3, h4⟩ | ⟨h1, h2, h3, h4⟩) | ⟨h1, h2, h3, h4⟩)
    · exact .inl (.inl (.inl ⟨h1, h2⟩))
    · exact .inr (.inl ⟨by omega, .inl ⟨by omega, by omega⟩⟩)
    · exact .inr (.inr ⟨by omega, .inl ⟨by omega, by omega⟩⟩)
    · by_cases e2 : i - N = e
      · rw [e2, on1] at h4
        rcases h4 with h4 | h4
        · exact .inr (.inl ⟨by omega, .inr (.inr ⟨by omega, h4⟩)⟩)
        · exact .inr (.inr ⟨by omega, .inr (.inr ⟨by omega, h4⟩)⟩)
      · exact .inl (.inl (.inr (.inl ⟨h1, by omega, h3, h4⟩)))
    · by_cases e2 : i - N = e
      · rw [e2, ← near1] at h4
        exact .inl (.inr ⟨by omega, h3, by omega, h4⟩)
      · exact .inl (.inl (.inr (.inr ⟨h1, by omega, h3, h4⟩)))
    · omega
theorem nearT_total {N : Nat} {es : List (Int × Int)} {i j : Nat} (hji : j < i) (hi : i < N + es.length) : nearT N es es.length 0 i j ↔ totalAre N es i j = true := by
  unfold nearT baseT totalAre
  rw [List.take_length]
  by_cases h1 : i < N
  · rw [if_pos h1]
    constructor
    · rintro ((⟨_, h⟩ | ⟨h, _⟩ | ⟨h, _⟩) | ⟨h, _⟩)
      · exact h
      · omega
      · omega
      · omega
    · intro h; exact .inl (.inl ⟨h1, h⟩)
  · rw [if_neg h1]
    by_cases h2 : j < N
    · rw [if_pos h2]
      constructor
      · rintro ((⟨h, _⟩ | ⟨_, _, _, h⟩ | ⟨_, _, h, _⟩) | ⟨_, _, h, _⟩)
        · omega
        · exact h
        · omega
        · omega
      · intro h; exact .inl (.inr (.inl ⟨by omega, by omega, h2, h⟩))
    · rw [if_neg h2]
      constructor
      · rintro ((⟨h, _⟩ | ⟨_, _, h, _⟩ | ⟨_, _, _, h⟩) | ⟨_, _, h, _⟩)
        · omega
        · omega
        · exact h
        · omega
      · intro h; exact .inl (.inr (.inr ⟨by omega, by omega, by omega, h⟩))
end Go.Proofs.Ytkpnplldnihalaa
