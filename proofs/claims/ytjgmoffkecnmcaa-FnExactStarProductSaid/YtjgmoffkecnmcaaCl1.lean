/- Edges that are copied: slices.Clone. No statement of the program is proved here. -/
import Derived.Test.YtjgmoffkecnmcaaEx2
import Derived.Deep.RegionLaw
import Derived.Lib.SliceRun
namespace Go.Proofs.Ytjgmoffkecnmcaa
open Go.RowKit
set_option linter.unusedSimpArgs false
set_option linter.unusedVariables false
set_option maxRecDepth 20000

theorem cE_mem {es : List (Int × Int)} {u : Value} (h : u ∈ cE es) : u.oneCell' = true := by
  induction es with
  | nil => simp [cE] at h
  | cons e es ih =>
    rw [cE_cons] at h
    simp only [List.mem_cons] at h
    rcases h with rfl | rfl | h
    · rfl
    · rfl
    · exact ih h

end Go.Proofs.Ytjgmoffkecnmcaa
