/- impl.IsCircular: what it returns; its walk. -/
import Derived.Test.YtkpnplldnihalaaCi3
namespace Go.Proofs.Ytkpnplldnihalaa
open Go.RowKit
set_option linter.unusedSimpArgs false
set_option linter.unusedVariables false
set_option maxRecDepth 20000

/-- What IsCircular returns. -/
def icOf (n : Int) (es : List (Int × Int)) (k d : Int) (xs : List Int) : Bool × Int :=
  (isGraphB n es && ((circB k d && decide (xs.length = es.length)) && properB es.length xs k (nearAre es) (fun x y => !apartB k d x y)), gcode (isGraphB n es) (circB k d && decide (xs.length = es.length)))
theorem circB_bd {k d : Int} (h : circB k d = true) : 2 ≤ k ∧ k ≤ 14 ∧ 1 ≤ d ∧ d ≤ 7 := by
  simp only [circB, Bool.and_eq_true, inB_true] at h; omega
theorem isGraphB_len {n : Int} {es : List (Int × Int)} (h : isGraphB n es = true) : es.length ≤ 30 := by
  have h1 := isGraphB_n h
  simp only [isGraphB, Bool.and_eq_true] at h
  have := (areEdgesB_in h.1).2.2.1
  omega

end Go.Proofs.Ytkpnplldnihalaa
