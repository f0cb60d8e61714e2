/- impl.IsCircular: what it returns; its walk. -/
/- The reference's IsCircular. -/
import Derived.Test.YtkpnplldnihalaaCi3
import Derived.Test.YtkpnplldnihalaaGr
namespace Go.Proofs.Ytkpnplldnihalaa
open Go.RowKit
set_option linter.unusedSimpArgs false
set_option linter.unusedVariables false
set_option maxRecDepth 20000

/-- What IsCircular returns. -/
def icOf (n : Int) (es : List (Int × Int)) (k d : Int) (xs : List Int) : Bool × Int :=
  (isGraphB n es && ((circB k d && decide (xs.length = es.length)) && properB es.length xs k (nearAre es) (fun x y => !apartB k d x y)), gcode (isGraphB n es) (circB k d && decide (xs.length = es.length)))
theorem circB_bd {k d : Int} (h : circB k d = true) : 2 ≤ k ∧ k ≤ 14 ∧ 1 ≤ d ∧ d ≤ 7 := by
  simp only [circB, Bool.and_eq_true, inB_true] at h; omega

end Go.Proofs.Ytkpnplldnihalaa
namespace Go.Proofs.Ytkpnplldnihalaa
open Go.RowKit
set_option linter.unusedSimpArgs false
set_option linter.unusedVariables false
set_option maxRecDepth 20000

theorem nbr_any (are : Nat → Nat → Bool) (i : Nat) (p : Int → Bool) : (nbr are i).any p = (List.range i).any (fun j => are i j && p j) := by
  simp only [nbr, nbrTo, List.any_map, List.any_filter]; rfl
theorem properAt_pair {xs : List Int} {k : Int} {are : Nat → Nat → Bool} {bad : Int → Int → Bool} {i j : Nat} (hj : j < i) (h1 : are i j = true) (h2 : bad (xs.getD i 0) (xs.getD j 0) = true) : properAt xs k are bad i = false := by
  have : (nbr are i).any (fun n => bad (xs.getD i 0) (xs.getD n.toNat 0)) = true := by
    rw [nbr_any, List.any_eq_true]
    exact ⟨j, by simpa using hj, by rw [h1, Int.toNat_natCast, h2]; rfl⟩
  rw [properAt, this]; simp
theorem properAt_yes {xs : List Int} {k : Int} {are : Nat → Nat → Bool} {bad : Int → Int → Bool} {i : Nat} (h0 : inB (xs.getD i 0) 0 (k - 1) = true) (h : ∀ j, j < i → are i j = true → bad (xs.getD i 0) (xs.getD j 0) = false) : properAt xs k are bad i = true := by
  have : (nbr are i).any (fun n => bad (xs.getD i 0) (xs.getD n.toNat 0)) = false := by
    rw [nbr_any, List.any_eq_false]
    intro j hj
    rw [Int.toNat_natCast]
    cases h1 : are i j
    · simp
    · rw [h j (by simpa using hj) h1]; simp
  rw [properAt, h0, this]; rfl

end Go.Proofs.Ytkpnplldnihalaa
