/- Edges that are near or close: isOn, isNear, isEdge. -/
import Derived.Test.YtigdfcigoejjjaaCw
namespace Go.Proofs.Ytigdfcigoejjjaa
open Go.RowKit
set_option linter.unusedSimpArgs false
set_option linter.unusedVariables false

/-- The edge is on the vertex. -/
def onB (e : Int × Int) (v : Int) : Bool := decide (e.1 = v) || decide (e.2 = v)
/-- Two edges have a vertex in common. -/
def nearB (a b : Int × Int) : Bool := onB a b.1 || onB a b.2
theorem nearB_comm (a b : Int × Int) : nearB a b = nearB b a := by
  have e1 : decide (a.1 = b.1) = decide (b.1 = a.1) := by simp [eq_comm]
  have e2 : decide (a.1 = b.2) = decide (b.2 = a.1) := by simp [eq_comm]
  have e3 : decide (a.2 = b.1) = decide (b.1 = a.2) := by simp [eq_comm]
  have e4 : decide (a.2 = b.2) = decide (b.2 = a.2) := by simp [eq_comm]
  simp only [nearB, onB, e1, e2, e3, e4]
  cases decide (b.1 = a.1) <;> cases decide (b.2 = a.1) <;> cases decide (b.1 = a.2) <;> cases decide (b.2 = a.2) <;> rfl

theorem isOn_b (a b v : Int) (w : World) (q : Bool) (hq : Hid (onB (a, b) v = q)) :
    Calls Try.prog 135 #[.agg #[.int .i64 a, .int .i64 b], .int .i64 v] w fun e w' => e = .returned (.bool q) ∧ Below w.heap.size w w' := by
  by_cases h1 : a = v
  · have hb : (a == v) = true := by simpa using h1
    have hd : decide (a = v) = true := by simpa using h1
    have Hq : Hid (q = true) := by show _ = _; rw [← hq.out]; simp [onB, h1]
    clear hq h1
    go_enter Try.func135, Try.ntmps135
    go_wp2
    go_ret
    exact ⟨by rw [Hq.out]; rfl, by (repeat' (first | (with_reducible exact Below.refl _ _) | (with_reducible assumption) | (with_reducible refine Below.alloc ?_ ?_ _) | (with_reducible refine Below.drew ?_) | (with_reducible refine below_drewN ?_ _) | (with_reducible refine Below.setCell ?_ ?_ _) | (with_reducible refine Below.trans ?_ (Below.mono (by assumption) ?_)) | (first | omega | (simp only [World.size_alloc, World.size_setCell, World.size_drew]; omega) | (simp; omega) | (simp; done))))⟩
  · have hb : (a == v) = false := by simpa using h1
    have hd : decide (a = v) = false := by simpa using h1
    by_cases h2 : b = v
    · have hb2 : (b == v) = true := by simpa using h2
      have hd2 : decide (b = v) = true := by simpa using h2
      have Hq : Hid (q = true) := by show _ = _; rw [← hq.out]; simp [onB, h2]
      clear hq h1 h2
      go_enter Try.func135, Try.ntmps135
      go_wp2
      go_ret
      exact ⟨by rw [Hq.out]; rfl, by (repeat' (first | (with_reducible exact Below.refl _ _) | (with_reducible assumption) | (with_reducible refine Below.alloc ?_ ?_ _) | (with_reducible refine Below.drew ?_) | (with_reducible refine below_drewN ?_ _) | (with_reducible refine Below.setCell ?_ ?_ _) | (with_reducible refine Below.trans ?_ (Below.mono (by assumption) ?_)) | (first | omega | (simp only [World.size_alloc, World.size_setCell, World.size_drew]; omega) | (simp; omega) | (simp; done))))⟩
    · have hb2 : (b == v) = false := by simpa using h2
      have hd2 : decide (b = v) = false := by simpa using h2
      have Hq : Hid (q = false) := by show _ = _; rw [← hq.out]; simp [onB, h1, h2]
      clear hq h1 h2
      go_enter Try.func135, Try.ntmps135
      go_wp2
      go_ret
      exact ⟨by rw [Hq.out]; rfl, by (repeat' (first | (with_reducible exact Below.refl _ _) | (with_reducible assumption) | (with_reducible refine Below.alloc ?_ ?_ _) | (with_reducible refine Below.drew ?_) | (with_reducible refine below_drewN ?_ _) | (with_reducible refine Below.setCell ?_ ?_ _) | (with_reducible refine Below.trans ?_ (Below.mono (by assumption) ?_)) | (first | omega | (simp only [World.size_alloc, World.size_setCell, World.size_drew]; omega) | (simp; omega) | (simp; done))))⟩

end Go.Proofs.Ytigdfcigoejjjaa
