/- Walks of the small functions on which impl.IsGraph rests. -/
import Derived.Test.YtblidpodbpoaeaaGlue3
import Derived.BigGuardPart
namespace Go.Proofs.Ytblidpodbpoaeaa
open Go.RowKit
set_option linter.unusedSimpArgs false
set_option linter.unusedVariables false

/-- whether lo ≤ n ≤ hi -/
def inB (n lo hi : Int) : Bool := decide (lo ≤ n) && decide (n ≤ hi)
theorem inB_true {n lo hi : Int} : inB n lo hi = true ↔ lo ≤ n ∧ n ≤ hi := by simp [inB]

set_option maxHeartbeats 400000 in
theorem within_b (n lo hi : Int) (w : World) (q : Bool) (hq : Hid (inB n lo hi = q)) :
    Calls Try.prog 76 #[.int .i64 n, .int .i64 lo, .int .i64 hi] w fun e w' => e = .returned (.bool q) ∧ w = w' := by
  by_cases h : lo ≤ n
  · have hd : decide (lo ≤ n) = true := by simpa using h
    have hq' : decide (n ≤ hi) = q := by rw [← hq.out]; simp [inB, h]
    have Hq := Lib.hid hq'; clear hq'
    go_enter Try.func76, Try.ntmps76
    go_wp2
    go_ret
    exact ⟨by rw [← Hq.out]; rfl, rfl⟩
  · have hd : decide (lo ≤ n) = false := by simpa using h
    have hq' : false = q := by rw [← hq.out]; simp [inB, h]
    have Hq := Lib.hid hq'; clear hq'
    go_enter Try.func76, Try.ntmps76
    go_wp2
    go_ret
    exact ⟨by rw [← Hq.out]; rfl, rfl⟩

set_option maxHeartbeats 400000 in
theorem lengthE_any (A : Option Addr) (n c : Nat) (w : World) :
    Calls Try.prog 86 #[.slice A n c] w fun e w' => e = .returned (.int .i64 n) ∧ w = w' := by
  go_enter Try.func86, Try.ntmps86
  go_wp2
  go_ret
  exact ⟨rfl, rfl⟩

/-- whether n is a size of a graph -/
def sizeB (n : Int) : Bool := inB n 2 20 && decide (n % 2 = 0)
theorem sizeB_true {n : Int} : sizeB n = true ↔ (2 ≤ n ∧ n ≤ 20) ∧ n % 2 = 0 := by simp [sizeB, inB]

set_option maxHeartbeats 400000 in
theorem isSize_b (n : Int) (w : World) (q : Bool) (hq : Hid (sizeB n = q)) :
    Calls Try.prog 128 #[.int .i64 n] w fun e w' => e = .returned (.bool q) ∧ w = w' := by
  obtain ⟨q1, h1⟩ : ∃ q1, Hid (inB n 2 20 = q1) := ⟨_, rfl⟩
  cases q1
  · have hq' : false = q := by rw [← hq.out, sizeB, h1.out]; rfl
    have Hq := Lib.hid hq'; clear hq'
    go_enter Try.func128, Try.ntmps128
    go_wp2_with (go_at_call 76; refine (within_b _ _ _ _ false h1).mono ?_; rintro e w1 ⟨rfl, rfl⟩)
    go_ret
    exact ⟨by rw [← Hq.out]; rfl, rfl⟩
  · have hn := inB_true.1 h1.out
    obtain ⟨ha, hb⟩ := hn
    have hq' : decide (n % 2 = 0) = q := by rw [← hq.out, sizeB, h1.out]; simp
    have Hq := Lib.hid hq'; clear hq'
    go_enter Try.func128, Try.ntmps128
    go_wp2_with (go_at_call 76; refine (within_b _ _ _ _ true h1).mono ?_; rintro e w1 ⟨rfl, rfl⟩)
    go_ret
    exact ⟨by rw [← Hq.out]; rfl, rfl⟩

/-- whether an edge joins different vertices among the first n -/
def edgeOK (n : Int) (a b : Int) : Bool := inB a 0 (n - 1) && (inB b 0 (n - 1) && decide (a ≠ b))

set_option maxHeartbeats 400000 in
theorem areEdges1_b (g : Nat) (n a b : Int) (hn : -1000 ≤ n) (hn' : n ≤ 1000) (w : World) (q : Bool) (hq : Hid (edgeOK n a b = q)) (hg : g < w.heap.size) (hc : w.cell? ⟨g, 0, none⟩ = some (.int .i64 n)) :
    Calls Try.prog 129 #[.agg #[.int .i64 a, .int .i64 b], .pointer (some ⟨g, 0, none⟩)] w fun e w' => e = .returned (.bool q) ∧ Below w.heap.size w w' := by
  obtain ⟨q1, h1⟩ : ∃ q1, Hid (inB a 0 (n - 1) = q1) := ⟨_, rfl⟩
  obtain ⟨q2, h2⟩ : ∃ q2, Hid (inB b 0 (n - 1) = q2) := ⟨_, rfl⟩
  cases q1
  · have hq' : false = q := by rw [← hq.out, edgeOK, h1.out]; rfl
    have Hq := Lib.hid hq'; clear hq'
    go_enter Try.func129, Try.ntmps129
    go_wp2_with fail
    refine (within_b _ _ _ _ false h1).mono ?_
    rintro e w1 ⟨rfl, rfl⟩
    go_wp2
    go_ret
    exact ⟨by rw [← Hq.out]; rfl, by (repeat' (first | (with_reducible exact Below.refl _ _) | (with_reducible assumption) | (with_reducible refine Below.alloc ?_ ?_ _) | (with_reducible refine Below.drew ?_) | (with_reducible refine below_drewN ?_ _) | (with_reducible refine Below.setCell ?_ ?_ _) | (with_reducible refine Below.trans ?_ (Below.mono (by assumption) ?_)) | (first | omega | (simp only [World.size_alloc, World.size_setCell, World.size_drew]; omega) | (simp; omega) | (simp; done))))⟩
  · cases q2
    · have hq' : false = q := by rw [← hq.out, edgeOK, h1.out, h2.out]; rfl
      have Hq := Lib.hid hq'; clear hq'
      go_enter Try.func129, Try.ntmps129
      go_wp2_with fail
      refine (within_b _ _ _ _ true h1).mono ?_
      rintro e w1 ⟨rfl, rfl⟩
      go_wp2_with fail
      refine (within_b _ _ _ _ false h2).mono ?_
      rintro e w1 ⟨rfl, rfl⟩
      go_wp2
      go_ret
      exact ⟨by rw [← Hq.out]; rfl, by (repeat' (first | (with_reducible exact Below.refl _ _) | (with_reducible assumption) | (with_reducible refine Below.alloc ?_ ?_ _) | (with_reducible refine Below.drew ?_) | (with_reducible refine below_drewN ?_ _) | (with_reducible refine Below.setCell ?_ ?_ _) | (with_reducible refine Below.trans ?_ (Below.mono (by assumption) ?_)) | (first | omega | (simp only [World.size_alloc, World.size_setCell, World.size_drew]; omega) | (simp; omega) | (simp; done))))⟩
    · have hq' : decide (a ≠ b) = q := by rw [← hq.out, edgeOK, h1.out, h2.out]; rfl
      have Hq := Lib.hid hq'; clear hq'
      go_enter Try.func129, Try.ntmps129
      go_wp2_with fail
      refine (within_b _ _ _ _ true h1).mono ?_
      rintro e w1 ⟨rfl, rfl⟩
      go_wp2_with fail
      refine (within_b _ _ _ _ true h2).mono ?_
      rintro e w1 ⟨rfl, rfl⟩
      go_wp2
      go_ret
      exact ⟨by rw [← Hq.out]; simp; rfl, by (repeat' (first | (with_reducible exact Below.refl _ _) | (with_reducible assumption) | (with_reducible refine Below.alloc ?_ ?_ _) | (with_reducible refine Below.drew ?_) | (with_reducible refine below_drewN ?_ _) | (with_reducible refine Below.setCell ?_ ?_ _) | (with_reducible refine Below.trans ?_ (Below.mono (by assumption) ?_)) | (first | omega | (simp only [World.size_alloc, World.size_setCell, World.size_drew]; omega) | (simp; omega) | (simp; done))))⟩

set_option maxHeartbeats 400000 in
theorem isGraph1_b (a b : Int) (w : World) :
    Calls Try.prog 103 #[.agg #[.int .i64 a, .int .i64 b]] w fun e w' => e = .returned (.bool (decide (a < b))) ∧ Below w.heap.size w w' := by
  go_enter Try.func103, Try.ntmps103
  go_wp2
  go_ret
  exact ⟨by simp, by (repeat' (first | (with_reducible exact Below.refl _ _) | (with_reducible assumption) | (with_reducible refine Below.alloc ?_ ?_ _) | (with_reducible refine Below.drew ?_) | (with_reducible refine below_drewN ?_ _) | (with_reducible refine Below.setCell ?_ ?_ _) | (with_reducible refine Below.trans ?_ (Below.mono (by assumption) ?_)) | (first | omega | (simp only [World.size_alloc, World.size_setCell, World.size_drew]; omega) | (simp; omega) | (simp; done))))⟩
set_option maxHeartbeats 400000 in
theorem isCubic1_b (a : Int) (w : World) :
    Calls Try.prog 133 #[.int .i64 a] w fun e w' => e = .returned (.bool (decide (a = 3))) ∧ w = w' := by
  go_enter Try.func133, Try.ntmps133
  go_wp2
  go_ret
  exact ⟨by simp; rfl, by (repeat' (first | (with_reducible exact Below.refl _ _) | (with_reducible assumption) | (with_reducible refine Below.alloc ?_ ?_ _) | (with_reducible refine Below.drew ?_) | (with_reducible refine below_drewN ?_ _) | (with_reducible refine Below.setCell ?_ ?_ _) | (with_reducible refine Below.trans ?_ (Below.mono (by assumption) ?_)) | (first | omega | (simp only [World.size_alloc, World.size_setCell, World.size_drew]; omega) | (simp; omega) | (simp; done))))⟩
end Go.Proofs.Ytblidpodbpoaeaa
