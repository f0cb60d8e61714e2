/- Lists that are renumberings: impl.isOrder. No statement of the program is proved here. -/
import Derived.Test.YtjgmoffkecnmcaaOr1
import Derived.Test.YtjgmoffkecnmcaaIs1
namespace Go.Proofs.Ytjgmoffkecnmcaa
open Go.RowKit
set_option linter.unusedSimpArgs false
set_option linter.unusedVariables false
set_option maxRecDepth 20000

/-- A renumbering of n vertices, as impl's isOrder tells it. -/
theorem permB_order {xs : List Int} {n : Nat} : permB xs n = (decide (xs.length = n) && xs.all (fun x => inB x 0 ((n : Int) - 1)) && decide (setN xs = 2 ^ n - 1)) := by
  unfold permB
  by_cases h : xs.length = n ∧ xs.all (fun x => inB x 0 ((n : Int) - 1)) = true
  · rw [setN_full h.1 (inB_all h.2)]
  · by_cases h1 : xs.length = n
    · have h2 : xs.all (fun x => inB x 0 ((n : Int) - 1)) = false := by
        cases hh : xs.all (fun x => inB x 0 ((n : Int) - 1))
        · rfl
        · exact absurd ⟨h1, hh⟩ h
      rw [h2]; simp
    · simp [h1]

end Go.Proofs.Ytjgmoffkecnmcaa
