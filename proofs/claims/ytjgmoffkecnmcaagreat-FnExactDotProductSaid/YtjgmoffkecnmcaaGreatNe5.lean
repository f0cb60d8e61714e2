/- The reference's near and close edges: l08Near, l08Close. -/
import Derived.Test.YtjgmoffkecnmcaaGreatNe4
namespace Go.Proofs.YtjgmoffkecnmcaaGreat
open Go.RowKit
set_option linter.unusedSimpArgs false
set_option linter.unusedVariables false

set_option maxHeartbeats 2000000 in
theorem l08Near_b (n : Int) (A : Option Addr) (c : Nat) (es : List (Int × Int)) (i j : Nat) (w : World) (q : Bool) (hq : Hid (nearB (es.getD i (0, 0)) (es.getD j (0, 0)) = q)) (hi : i < es.length) (hj : j < es.length) (hl : es.length ≤ 1048576) (hr : RdE w A es) :
    Calls Tryz.prog 34 #[.agg #[.int .i64 n, .slice A es.length c], .int .i64 i, .int .i64 j] w fun e w' => e = .returned (.bool q) ∧ Below w.heap.size w w' := by
  obtain ⟨b, off, rfl, hb, hc⟩ := hr.pos (by omega)
  obtain ⟨ha0, ha1⟩ := hc i hi
  obtain ⟨hb0, hb1⟩ := hc j hj
  obtain ⟨⟨a0, a1⟩, Ha⟩ : ∃ x, Hid (es.getD i (0, 0) = x) := ⟨_, rfl⟩
  obtain ⟨⟨b0, b1⟩, Hb⟩ : ∃ x, Hid (es.getD j (0, 0) = x) := ⟨_, rfl⟩
  rw [Ha.out] at ha0 ha1 hq
  rw [Hb.out] at hb0 hb1 hq
  dsimp only at ha0 ha1 hb0 hb1
  clear hc hr Ha Hb
  generalize es.length = L at *
  have i0 : (0 : Int) ≤ i := by omega
  have i1 : (i : Int) < L := by omega
  have i2 : (i : Int).toNat = i := by omega
  have j0 : (0 : Int) ≤ j := by omega
  have j1 : (j : Int) < L := by omega
  have j2 : (j : Int).toNat = j := by omega
  obtain ⟨q1, h1⟩ : ∃ q, Hid (decide (a0 = b0) = q) := ⟨_, rfl⟩
  obtain ⟨q2, h2⟩ : ∃ q, Hid (decide (a0 = b1) = q) := ⟨_, rfl⟩
  obtain ⟨q3, h3⟩ : ∃ q, Hid (decide (a1 = b0) = q) := ⟨_, rfl⟩
  obtain ⟨q4, h4⟩ : ∃ q, Hid (decide (a1 = b1) = q) := ⟨_, rfl⟩
  have Hq : Hid ((q1 || q2 || q3 || q4) = q) := by
    show _ = _; rw [← hq.out, ← h1.out, ← h2.out, ← h3.out, ← h4.out]; simp only [nearB, onB]
    cases decide (a0 = b0) <;> cases decide (a0 = b1) <;> cases decide (a1 = b0) <;> cases decide (a1 = b1) <;> rfl
  have e1 : (a0 == b0) = q1 := by rw [← h1.out]; rfl
  have e2 : (a0 == b1) = q2 := by rw [← h2.out]; rfl
  have e3 : (a1 == b0) = q3 := by rw [← h3.out]; rfl
  have e4 : (a1 == b1) = q4 := by rw [← h4.out]; rfl
  clear hq h1 h2 h3 h4
  have n0 : b ≠ w.heap.size := by omega
  have n1 : b ≠ w.heap.size + 1 := by omega
  have n2 : b ≠ w.heap.size + 1 + 1 := by omega
  have n3 : b < w.heap.size + 1 := by omega
  have n4 : b < w.heap.size + 1 + 1 := by omega
  cases q1
  · cases q2
    · cases q3
      all_goals
        go_enter Tryz.func34, Tryz.ntmps34
        go_wp2
        go_region
        all_goals
          go_wp2
          go_ret
          exact ⟨by rw [← Hq.out]; simp <;> rfl, by (repeat' (first | (with_reducible exact Below.refl _ _) | (with_reducible assumption) | (with_reducible refine Below.alloc ?_ ?_ _) | (with_reducible refine Below.drew ?_) | (with_reducible refine below_drewN ?_ _) | (with_reducible refine Below.setCell ?_ ?_ _) | (with_reducible refine Below.trans ?_ (Below.mono (by assumption) ?_)) | (first | omega | (simp only [World.size_alloc, World.size_setCell, World.size_drew]; omega) | (simp; omega) | (simp; done))))⟩
    · go_enter Tryz.func34, Tryz.ntmps34
      go_wp2
      go_region
      all_goals
        go_wp2
        go_ret
        exact ⟨by rw [← Hq.out]; simp <;> rfl, by (repeat' (first | (with_reducible exact Below.refl _ _) | (with_reducible assumption) | (with_reducible refine Below.alloc ?_ ?_ _) | (with_reducible refine Below.drew ?_) | (with_reducible refine below_drewN ?_ _) | (with_reducible refine Below.setCell ?_ ?_ _) | (with_reducible refine Below.trans ?_ (Below.mono (by assumption) ?_)) | (first | omega | (simp only [World.size_alloc, World.size_setCell, World.size_drew]; omega) | (simp; omega) | (simp; done))))⟩
  · go_enter Tryz.func34, Tryz.ntmps34
    go_wp2
    go_region
    all_goals
      go_wp2
      go_ret
      exact ⟨by rw [← Hq.out]; simp <;> rfl, by (repeat' (first | (with_reducible exact Below.refl _ _) | (with_reducible assumption) | (with_reducible refine Below.alloc ?_ ?_ _) | (with_reducible refine Below.drew ?_) | (with_reducible refine below_drewN ?_ _) | (with_reducible refine Below.setCell ?_ ?_ _) | (with_reducible refine Below.trans ?_ (Below.mono (by assumption) ?_)) | (first | omega | (simp only [World.size_alloc, World.size_setCell, World.size_drew]; omega) | (simp; omega) | (simp; done))))⟩

end Go.Proofs.YtjgmoffkecnmcaaGreat
