/- impl.AreClose: what it returns; its walk. -/
import Derived.Test.YtigdfcigoejjjaaNe3
namespace Go.Proofs.Ytigdfcigoejjjaa
open Go.RowKit
set_option linter.unusedSimpArgs false
set_option linter.unusedVariables false

/-- whether e and f are different edges -/
def twoB (m : Nat) (e f : Int) : Bool := inB e 0 ((m : Int) - 1) && (inB f 0 ((m : Int) - 1) && decide (e ≠ f))
/-- What AreClose returns. -/
def acOf (n : Int) (es : List (Int × Int)) (e f : Int) : Bool × Int :=
  (isGraphB n es && (twoB es.length e f && closeB es e.toNat f.toNat), gcode (isGraphB n es) (twoB es.length e f))

end Go.Proofs.Ytigdfcigoejjjaa
