/- ContainsFunc over a list on whose elements alone the test is defined; isClose. -/
import Derived.Test.YtjgmoffkecnmcaaNe2
namespace Go.Proofs.Ytjgmoffkecnmcaa
open Go.RowKit
set_option linter.unusedSimpArgs false
set_option linter.unusedVariables false

/-- A function value that, called with an element of xs, in whatever world that has grown out of w, says p of it and leaves what was there. -/
def PredX (g : Nat) (lb : Array Value) (p : Int → Bool) (xs : List Int) (w : World) : Prop :=
  ∀ (W : World) (a : Int), a ∈ xs → Below w.heap.size w W → Calls Try.prog g (#[.int .i64 a] ++ lb) W fun e w' => e = .returned (.bool (p a)) ∧ Below W.heap.size W w'
theorem PredX.below {g : Nat} {lb : Array Value} {p : Int → Bool} {xs : List Int} {w w1 : World} (h : PredX g lb p xs w) (hb : Below w.heap.size w w1) : PredX g lb p xs w1 :=
  fun W a ha hW => h W a ha (hb.trans (hW.mono hb.size))

/-- Edge h is near to both. -/
def midB (es : List (Int × Int)) (i j h : Nat) : Bool := nearB (es.getD i (0, 0)) (es.getD h (0, 0)) && nearB (es.getD h (0, 0)) (es.getD j (0, 0))
/-- Two edges are close. -/
def closeB (es : List (Int × Int)) (i j : Nat) : Bool := nearB (es.getD i (0, 0)) (es.getD j (0, 0)) || (List.range es.length).any (midB es i j)

theorem closeB_idx (es : List (Int × Int)) (i j : Nat) : (idx es.length).any (fun h => midB es i j h.toNat) = (List.range es.length).any (midB es i j) := by
  simp [idx, List.any_map, Function.comp_def]
theorem mem_idx {n : Nat} {a : Int} (h : a ∈ idx n) : ∃ k : Nat, a = k ∧ k < n := by
  simp only [idx, List.mem_map, List.mem_range] at h
  obtain ⟨k, hk, rfl⟩ := h
  exact ⟨k, rfl, hk⟩

end Go.Proofs.Ytjgmoffkecnmcaa
