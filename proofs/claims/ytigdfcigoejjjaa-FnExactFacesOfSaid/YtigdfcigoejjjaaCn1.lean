/- Connected vertices: the plain law. No statement of the program is proved here. -/
import Derived.Test.YtigdfcigoejjjaaGr
namespace Go.Proofs.Ytigdfcigoejjjaa
open Go.RowKit
set_option linter.unusedSimpArgs false
set_option linter.unusedVariables false
set_option maxRecDepth 20000

/-- One of the edges that p takes joins u and v. -/
def Adj (es : List (Int × Int)) (p : Nat → Bool) (u v : Nat) : Prop := ∃ k, k < es.length ∧ p k = true ∧ (es.getD k (0, 0) = ((u : Int), (v : Int)) ∨ es.getD k (0, 0) = ((v : Int), (u : Int)))
theorem Adj.symm {es : List (Int × Int)} {p : Nat → Bool} {u v : Nat} (h : Adj es p u v) : Adj es p v u := by
  obtain ⟨k, h1, h2, h3⟩ := h
  exact ⟨k, h1, h2, h3.symm⟩
/-- A way leads from u to v. -/
inductive Conn (es : List (Int × Int)) (p : Nat → Bool) (u : Nat) : Nat → Prop
  | refl : Conn es p u u
  | step {v w : Nat} : Conn es p u v → Adj es p v w → Conn es p u w
theorem Conn.trans {es : List (Int × Int)} {p : Nat → Bool} {u v w : Nat} (h : Conn es p u v) (k : Conn es p v w) : Conn es p u w := by
  induction k with
  | refl => exact h
  | step _ h2 ih => exact ih.step h2
theorem Conn.one {es : List (Int × Int)} {p : Nat → Bool} {u v : Nat} (h : Adj es p u v) : Conn es p u v := Conn.refl.step h
theorem Conn.symm {es : List (Int × Int)} {p : Nat → Bool} {u v : Nat} (h : Conn es p u v) : Conn es p v u := by
  induction h with
  | refl => exact .refl
  | step _ h2 ih => exact (Conn.one h2.symm).trans ih
/-- A set that is closed under edges holds whatever ways lead to. -/
theorem Conn.closed {es : List (Int × Int)} {p : Nat → Bool} {S : Nat → Prop} (hS : ∀ u v, S u → Adj es p u v → S v) {u v : Nat} (hu : S u) (h : Conn es p u v) : S v := by
  induction h with
  | refl => exact hu
  | step _ h2 ih => exact hS _ _ ih h2
theorem Adj.lt {es : List (Int × Int)} {p : Nat → Bool} {N u v : Nat} (hin : InN N es) (h : Adj es p u v) : u < N ∧ v < N := by
  obtain ⟨k, hk, _, h3⟩ := h
  obtain ⟨a, b, hab, ha, hb⟩ := hin k hk
  rw [hab] at h3
  rcases h3 with h3 | h3 <;> (injection h3 with h4 h5; omega)
/-- The least vertex of its part. -/
def Least (es : List (Int × Int)) (p : Nat → Bool) (v : Nat) : Prop := ∀ u, u < v → ¬ Conn es p u v
/-- Labels that are the same along edges, not above and within the part. -/
theorem lab_least {es : List (Int × Int)} {p : Nat → Bool} {N : Nat} {lab : Nat → Nat} (hin : InN N es) (h1 : ∀ v, v < N → lab v ≤ v) (h2 : ∀ v, v < N → Conn es p v (lab v)) (h3 : ∀ u v, Adj es p u v → lab u = lab v) {v : Nat} (hv : v < N) : lab v = v ↔ Least es p v := by
  constructor
  · intro e u hu hc
    have hl : lab u = lab v := Conn.closed (S := fun x => lab u = lab x) (fun x y hx ha => hx.trans (h3 x y ha)) rfl hc
    have := h1 u (by omega)
    omega
  · intro hL
    have h4 := h1 v hv
    by_cases e : lab v = v
    · exact e
    · exact absurd (h2 v hv).symm (hL (lab v) (by omega))
open Classical in
/-- The number of parts. -/
noncomputable def partsN (es : List (Int × Int)) (p : Nat → Bool) (N : Nat) : Nat := ((List.range N).filter fun v => decide (Least es p v)).length
end Go.Proofs.Ytigdfcigoejjjaa
