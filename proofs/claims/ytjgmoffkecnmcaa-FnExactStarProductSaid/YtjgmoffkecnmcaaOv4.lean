/- The reference's OpenVertex. No statement of the program is proved here. -/
/- The function value of impl.OpenVertex. No statement of the program is proved here. -/
/- OpenVertex of impl and of the reference, at every input. No statement of the program is proved here. -/
import Derived.Test.YtjgmoffkecnmcaaOv3
import Derived.Test.YtjgmoffkecnmcaaCl1
import Derived.Test.YtjgmoffkecnmcaaMk1
import Derived.Test.YtjgmoffkecnmcaaBr2
namespace Go.Proofs.Ytjgmoffkecnmcaa
open Go.RowKit
set_option linter.unusedSimpArgs false
set_option linter.unusedVariables false
set_option maxRecDepth 20000

theorem blk3_rd {w : World} {t : TypeId} {a b c : Int × Int} {n : Nat} (hn : n = w.heap.size) : RdE (w.alloc (.cells #[.int .i64 a.1, .int .i64 a.2, .int .i64 b.1, .int .i64 b.2, .int .i64 c.1, .int .i64 c.2] t)) (some ⟨n, 0, none⟩) [a, b, c] :=
  blkE_rd (t := t) (es := [a, b, c]) (Blk.new' _ hn)

end Go.Proofs.Ytjgmoffkecnmcaa
namespace Go.Proofs.Ytjgmoffkecnmcaa
open Go.RowKit
set_option linter.unusedSimpArgs false
set_option linter.unusedVariables false
set_option maxRecDepth 20000

theorem own_cap {w : World} {base : Nat} {e : TypeId} {size n c g : Nat} {xs : List Value} (h : w.ownsRow base e size (.slice (some ⟨g, 0, none⟩) n c) n xs) : n ≤ c ∧ c ≤ maxLen ∧ base ≤ g := by
  rcases h.2 with ⟨h1, _⟩ | ⟨g', cap, cur, hv, hge, hh, h6, h7, h8, ht⟩
  · cases h1
  · injection hv with h1 h2 h3
    injection h1 with h1
    injection h1 with h1 _ _
    subst h1; subst h3
    exact ⟨h6, h7, hge⟩

end Go.Proofs.Ytjgmoffkecnmcaa
namespace Go.Proofs.Ytjgmoffkecnmcaa
open Go.RowKit
set_option linter.unusedSimpArgs false
set_option linter.unusedVariables false
set_option maxRecDepth 20000

theorem openV_yes {n : Int} {es : List (Int × Int)} {v : Int} (hg : isGraphB n es = true) (hv : inB v 0 (n - 1) = true) {a0 a b : Nat} (hat : atL es v = [(a0 : Int), (a : Int), (b : Int)]) : openV n es v = limV (n + 2) (ovI n es v a b) := by
  unfold openV
  rw [if_neg (by rw [hg]; decide), if_neg (by rw [hv]; decide), hat]
  rfl
theorem openV_no {n : Int} {es : List (Int × Int)} {v : Int} (h : ¬ (isGraphB n es = true ∧ inB v 0 (n - 1) = true)) : openV n es v = (0, [], gcode (isGraphB n es) (inB v 0 (n - 1))) := by
  unfold openV
  generalize isGraphB n es = qg at *
  generalize inB v 0 (n - 1) = q at *
  cases qg <;> cases q <;> simp_all [gcode]
theorem gcode_false (q : Bool) : gcode false q = 1 := rfl

end Go.Proofs.Ytjgmoffkecnmcaa
