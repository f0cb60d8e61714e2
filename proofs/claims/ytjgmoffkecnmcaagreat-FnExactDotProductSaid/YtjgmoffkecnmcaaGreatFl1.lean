/- star, and the edges of flower graphs. No statement of the program is proved here. -/
import Derived.Test.YtjgmoffkecnmcaaGreatGo1
namespace Go.Proofs.YtjgmoffkecnmcaaGreat
open Go.RowKit
set_option linter.unusedSimpArgs false
set_option linter.unusedVariables false
set_option maxRecDepth 20000

def starE (v : Int) (us : List Int) : List (Int × Int) := us.map fun u => (v, u)
/-- The edges of one stalk. -/
def flow4 (k i : Int) : List (Int × Int) := [(i, k + i), (i, 2 * k + i), (i, 3 * k + i), (k + i, k + (i + 1).tmod k)]
/-- The edge of the long round. -/
def flow1 (k i : Int) : Int × Int := (2 * k + i, 2 * k + (i + 1).tmod (2 * k))
def flowA (K j : Nat) : List (Int × Int) := (List.range j).flatMap fun (i : Nat) => flow4 K i
def flowB (K j : Nat) : List (Int × Int) := flowA K K ++ (List.range j).map fun (i : Nat) => flow1 K i
theorem flowA_zero (K : Nat) : flowA K 0 = [] := rfl
theorem flowA_succ (K j : Nat) : flowA K (j + 1) = flowA K j ++ flow4 K j := by simp [flowA, List.range_succ]
theorem flowB_zero (K : Nat) : flowB K 0 = flowA K K := by simp [flowB]
theorem flowB_succ (K j : Nat) : flowB K (j + 1) = flowB K j ++ [flow1 K j] := by simp [flowB, List.range_succ]
theorem flowA_len (K j : Nat) : (flowA K j).length = 4 * j := by
  induction j with
  | zero => rfl
  | succ j ih => rw [flowA_succ, List.length_append, ih]; simp [flow4]; omega
theorem flowB_len (K j : Nat) : (flowB K j).length = 4 * K + j := by simp [flowB, flowA_len]
end Go.Proofs.YtjgmoffkecnmcaaGreat
