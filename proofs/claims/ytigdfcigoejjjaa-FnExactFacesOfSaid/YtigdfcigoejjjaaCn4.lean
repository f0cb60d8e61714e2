/- The parts of a graph: the plain law. No statement of the program is proved here. -/
import Derived.Test.YtigdfcigoejjjaaCn3
namespace Go.Proofs.Ytigdfcigoejjjaa
open Go.RowKit
set_option linter.unusedSimpArgs false
set_option linter.unusedVariables false
set_option maxRecDepth 20000

open Classical in
/-- Those that ways lead to from v, in rising order. -/
noncomputable def sideL (es : List (Int × Int)) (p : Nat → Bool) (v k : Nat) : List Int := ((List.range k).filter fun u => decide (Conn es p v u)).map fun (u : Nat) => (u : Int)
open Classical in
/-- The parts whose least vertex is below k. -/
noncomputable def sidesL (es : List (Int × Int)) (p : Nat → Bool) (N k : Nat) : List (List Int) := ((List.range k).filter fun v => decide (Least es p v)).map fun v => sideL es p v N
theorem sideL_succ (es : List (Int × Int)) (p : Nat → Bool) (v k : Nat) : (Conn es p v k → sideL es p v (k + 1) = sideL es p v k ++ [(k : Int)]) ∧ (¬ Conn es p v k → sideL es p v (k + 1) = sideL es p v k) := by
  classical
  unfold sideL
  rw [List.range_succ, List.filter_append, List.map_append]
  constructor
  · intro h
    have : List.filter (fun u => decide (Conn es p v u)) [k] = [k] := by simp only [List.filter_cons, List.filter_nil, decide_eq_true h, if_true]
    rw [this]; rfl
  · intro h
    have : List.filter (fun u => decide (Conn es p v u)) [k] = [] := by simp only [List.filter_cons, List.filter_nil, decide_eq_false h]; rfl
    rw [this]; simp
theorem sidesL_succ (es : List (Int × Int)) (p : Nat → Bool) (N k : Nat) : (Least es p k → sidesL es p N (k + 1) = sidesL es p N k ++ [sideL es p k N]) ∧ (¬ Least es p k → sidesL es p N (k + 1) = sidesL es p N k) := by
  classical
  unfold sidesL
  rw [List.range_succ, List.filter_append, List.map_append]
  constructor
  · intro h
    have : List.filter (fun v => decide (Least es p v)) [k] = [k] := by simp only [List.filter_cons, List.filter_nil, decide_eq_true h, if_true]
    rw [this]; rfl
  · intro h
    have : List.filter (fun v => decide (Least es p v)) [k] = [] := by simp only [List.filter_cons, List.filter_nil, decide_eq_false h]; rfl
    rw [this]; simp
theorem sidesL_len (es : List (Int × Int)) (p : Nat → Bool) (N : Nat) : (sidesL es p N N).length = partsN es p N := by unfold sidesL partsN; rw [List.length_map]
theorem sideL_le (es : List (Int × Int)) (p : Nat → Bool) (v k : Nat) : (sideL es p v k).length ≤ k := by
  classical
  unfold sideL
  rw [List.length_map]
  have := List.length_filter_le (fun u => decide (Conn es p v u)) (List.range k)
  rw [List.length_range] at this
  exact this
theorem sidesL_le (es : List (Int × Int)) (p : Nat → Bool) (N k : Nat) : (sidesL es p N k).length ≤ k := by
  classical
  unfold sidesL
  rw [List.length_map]
  have := List.length_filter_le (fun v => decide (Least es p v)) (List.range k)
  rw [List.length_range] at this
  exact this
/-- Those that the parts before k hold. -/
def Seen (es : List (Int × Int)) (p : Nat → Bool) (k u : Nat) : Prop := ∃ v, v < k ∧ Conn es p v u
theorem seen_least (es : List (Int × Int)) (p : Nat → Bool) (k : Nat) : ¬ Seen es p k k ↔ Least es p k := by
  constructor
  · intro h u hu hc; exact h ⟨u, hu, hc⟩
  · rintro h ⟨v, hv, hc⟩; exact h v hv hc
theorem seen_succ (es : List (Int × Int)) (p : Nat → Bool) (k u : Nat) : Seen es p (k + 1) u ↔ Seen es p k u ∨ Conn es p k u := by
  constructor
  · rintro ⟨v, hv, hc⟩
    by_cases e : v = k
    · subst e; exact .inr hc
    · exact .inl ⟨v, by omega, hc⟩
  · rintro (⟨v, hv, hc⟩ | hc)
    · exact ⟨v, by omega, hc⟩
    · exact ⟨k, by omega, hc⟩
/-- A vertex that is seen brings nothing new. -/
theorem seen_old {es : List (Int × Int)} {p : Nat → Bool} {k : Nat} (h : Seen es p k k) (u : Nat) : Seen es p (k + 1) u ↔ Seen es p k u := by
  rw [seen_succ]
  refine ⟨fun h2 => ?_, .inl⟩
  rcases h2 with h2 | h2
  · exact h2
  · obtain ⟨v, hv, hc⟩ := h
    exact ⟨v, hv, hc.trans h2⟩
end Go.Proofs.Ytigdfcigoejjjaa
