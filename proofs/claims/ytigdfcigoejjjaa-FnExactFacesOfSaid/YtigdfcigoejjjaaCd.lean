/- graphCode, isVertex; the reference's l01Vertices. -/
import Derived.Test.YtigdfcigoejjjaaSp1
namespace Go.Proofs.Ytigdfcigoejjjaa
open Go.RowKit
set_option linter.unusedSimpArgs false
set_option linter.unusedVariables false

/-- The code of a graph and a range. -/
def gcode (qg qr : Bool) : Int := if qg then (if qr then 0 else 2) else 1

set_option maxHeartbeats 1000000 in
theorem graphCode_b (n : Int) (A : Option Addr) (c : Nat) (es : List (Int × Int)) (w : World) (qg qr : Bool) (hq : Hid (isGraphB n es = qg)) (hl : es.length ≤ 1048576) (hr : RdE w A es) :
    Calls Try.prog 36 #[.agg #[.int .i64 n, .slice A es.length c], .bool qr] w fun e w' => e = .returned (.int .i64 (gcode qg qr)) ∧ Below w.heap.size w w' := by
  have c1 := fun W (hW : Below w.heap.size w W) => isGraph_b n A c es W qg hq hl (hr.below hW)
  clear hr hq
  cases qg
  · go_enter Try.func36, Try.ntmps36
    go_wp2_with fail
    refine (c1 _ (by (repeat' (first | (with_reducible exact Below.refl _ _) | (with_reducible assumption) | (with_reducible refine Below.alloc ?_ ?_ _) | (with_reducible refine Below.drew ?_) | (with_reducible refine below_drewN ?_ _) | (with_reducible refine Below.setCell ?_ ?_ _) | (with_reducible refine Below.trans ?_ (Below.mono (by assumption) ?_)) | (first | omega | (simp only [World.size_alloc, World.size_setCell, World.size_drew]; omega) | (simp; omega) | (simp; done)))))).mono ?_
    rintro e w1 ⟨rfl, hb1⟩
    go_wp2
    go_ret
    exact ⟨rfl, by (repeat' (first | (with_reducible exact Below.refl _ _) | (with_reducible assumption) | (with_reducible refine Below.alloc ?_ ?_ _) | (with_reducible refine Below.drew ?_) | (with_reducible refine below_drewN ?_ _) | (with_reducible refine Below.setCell ?_ ?_ _) | (with_reducible refine Below.trans ?_ (Below.mono (by assumption) ?_)) | (first | omega | (simp only [World.size_alloc, World.size_setCell, World.size_drew]; omega) | (simp; omega) | (simp; done))))⟩
  · cases qr
    all_goals
      go_enter Try.func36, Try.ntmps36
      go_wp2_with fail
      refine (c1 _ (by (repeat' (first | (with_reducible exact Below.refl _ _) | (with_reducible assumption) | (with_reducible refine Below.alloc ?_ ?_ _) | (with_reducible refine Below.drew ?_) | (with_reducible refine below_drewN ?_ _) | (with_reducible refine Below.setCell ?_ ?_ _) | (with_reducible refine Below.trans ?_ (Below.mono (by assumption) ?_)) | (first | omega | (simp only [World.size_alloc, World.size_setCell, World.size_drew]; omega) | (simp; omega) | (simp; done)))))).mono ?_
      rintro e w1 ⟨rfl, hb1⟩
      go_wp2
      go_ret
      exact ⟨rfl, by (repeat' (first | (with_reducible exact Below.refl _ _) | (with_reducible assumption) | (with_reducible refine Below.alloc ?_ ?_ _) | (with_reducible refine Below.drew ?_) | (with_reducible refine below_drewN ?_ _) | (with_reducible refine Below.setCell ?_ ?_ _) | (with_reducible refine Below.trans ?_ (Below.mono (by assumption) ?_)) | (first | omega | (simp only [World.size_alloc, World.size_setCell, World.size_drew]; omega) | (simp; omega) | (simp; done))))⟩

end Go.Proofs.Ytigdfcigoejjjaa
