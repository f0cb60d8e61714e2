/- The reference's near and close edges: l08Near, l08Close. -/
import Derived.Test.YtigdfcigoejjjaaNe4
namespace Go.Proofs.Ytigdfcigoejjjaa
open Go.RowKit
set_option linter.unusedSimpArgs false
set_option linter.unusedVariables false

end Go.Proofs.Ytigdfcigoejjjaa
