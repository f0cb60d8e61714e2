/- Lists of ints in the laws: toInt64S, eqInt64S; the numbers of circular colourings. -/
import Derived.Test.YtjgmoffkecnmcaaGreatNe5
namespace Go.Proofs.YtjgmoffkecnmcaaGreat
open Go.RowKit
set_option linter.unusedSimpArgs false
set_option linter.unusedVariables false
set_option maxRecDepth 20000

/-- What the copy holds after k rounds. -/
def upToI (xs : List Int) (k : Nat) : List Int := xs.take k ++ List.replicate (xs.length - k) 0
theorem upToI_zero (xs : List Int) : upToI xs 0 = List.replicate xs.length 0 := by simp [upToI]
theorem upToI_all (xs : List Int) : upToI xs xs.length = xs := by simp [upToI]
theorem upToI_len (xs : List Int) (k : Nat) (h : k ≤ xs.length) : (upToI xs k).length = xs.length := by simp [upToI]; omega
theorem upToI_set (xs : List Int) (k : Nat) (h : k < xs.length) : (upToI xs k).set k xs[k] = upToI xs (k + 1) := by
  have h1 : xs.length - k = (xs.length - (k + 1)) + 1 := by omega
  have h2 : (xs.take k).length = k := by simp; omega
  rw [upToI, upToI, h1, List.replicate_succ, List.set_append_right _ _ (by simp; omega), h2, Nat.sub_self, List.set_cons_zero, List.take_succ_eq_append_getElem h, List.append_assoc]; rfl

/-- whether k and d are numbers of circular colourings -/
def circB (k d : Int) : Bool := inB k 2 14 && inB d 1 (k / 2)
/-- whether two numbers are apart -/
def apartB (k d x y : Int) : Bool := decide (d ≤ max (x - y) (y - x)) && decide (max (x - y) (y - x) ≤ k - d)
end Go.Proofs.YtjgmoffkecnmcaaGreat
