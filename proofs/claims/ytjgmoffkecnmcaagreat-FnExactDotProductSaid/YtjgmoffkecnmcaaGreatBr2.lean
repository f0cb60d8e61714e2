/- The reference's BridgeEdges. No statement of the program is proved here. -/
/- impl.BridgeEdges. No statement of the program is proved here. -/
/- impl.BridgeEdges. No statement of the program is proved here. -/
/- BridgeEdges of impl and of the reference, at every input. No statement of the program is proved here. -/
import Derived.Test.YtjgmoffkecnmcaaGreatBr1
import Derived.Test.YtjgmoffkecnmcaaGreatNe1
import Derived.Test.YtjgmoffkecnmcaaGreatCd
namespace Go.Proofs.YtjgmoffkecnmcaaGreat
open Go.RowKit
set_option linter.unusedSimpArgs false
set_option linter.unusedVariables false
set_option maxRecDepth 20000

/-- The cells of two edges. -/
theorem blk2_rd {w : World} {t : TypeId} {a b : Int × Int} {n : Nat} (hn : n = w.heap.size) : RdE (w.alloc (.cells #[.int .i64 a.1, .int .i64 a.2, .int .i64 b.1, .int .i64 b.2] t)) (some ⟨n, 0, none⟩) [a, b] :=
  blkE_rd (t := t) (es := [a, b]) (Blk.new' _ hn)
theorem blk1_rd {w : World} {t : TypeId} {a : Int × Int} {n : Nat} (hn : n = w.heap.size) : RdE (w.alloc (.cells #[.int .i64 a.1, .int .i64 a.2] t)) (some ⟨n, 0, none⟩) [a] :=
  blkE_rd (t := t) (es := [a]) (Blk.new' _ hn)

end Go.Proofs.YtjgmoffkecnmcaaGreat
namespace Go.Proofs.YtjgmoffkecnmcaaGreat
open Go.RowKit
set_option linter.unusedSimpArgs false
set_option linter.unusedVariables false
set_option maxRecDepth 20000

end Go.Proofs.YtjgmoffkecnmcaaGreat
namespace Go.Proofs.YtjgmoffkecnmcaaGreat
open Go.RowKit
set_option linter.unusedSimpArgs false
set_option linter.unusedVariables false
set_option maxRecDepth 20000

end Go.Proofs.YtjgmoffkecnmcaaGreat
namespace Go.Proofs.YtjgmoffkecnmcaaGreat
open Go.RowKit
set_option linter.unusedSimpArgs false
set_option linter.unusedVariables false
set_option maxRecDepth 20000

theorem gcode_no {qg qv : Bool} (h : ¬ (qg = true ∧ qv = true)) : gcode qg qv ≠ 0 := by
  cases qg <;> cases qv <;> simp_all [gcode]
theorem bridgeV_yes {n : Int} {es : List (Int × Int)} {a b : Int} (hg : isGraphB n es = true) (ha : inB a 0 ((es.length : Int) - 1) = true) (hb : inB b 0 ((es.length : Int) - 1) = true) (hab : a ≠ b) : bridgeV n es a b = limV (n + 2) (brL false n a b es es.length) := by
  simp [bridgeV, hg, ha, hb, hab]
theorem bridgeV_same {n : Int} {es : List (Int × Int)} {a b : Int} (hg : isGraphB n es = true) (ha : inB a 0 ((es.length : Int) - 1) = true) (hb : inB b 0 ((es.length : Int) - 1) = true) (hab : a = b) : bridgeV n es a b = (0, [], 5) := by
  subst hab; simp [bridgeV, hg, ha]
theorem bridgeV_no {n : Int} {es : List (Int × Int)} {a b : Int} (h : ¬ (isGraphB n es = true ∧ (inB a 0 ((es.length : Int) - 1) && inB b 0 ((es.length : Int) - 1)) = true)) : bridgeV n es a b = (0, [], gcode (isGraphB n es) (inB a 0 ((es.length : Int) - 1) && inB b 0 ((es.length : Int) - 1))) := by
  unfold bridgeV
  generalize isGraphB n es = qg at *
  generalize (inB a 0 ((es.length : Int) - 1) && inB b 0 ((es.length : Int) - 1)) = q at *
  cases qg <;> cases q <;> simp_all [gcode]

end Go.Proofs.YtjgmoffkecnmcaaGreat
