/- The reference's ShrinkTriangle: the errors. No statement of the program is proved here. -/
import Derived.Test.YtjgmoffkecnmcaaTg2
import Derived.Test.YtjgmoffkecnmcaaPr1
import Derived.Test.YtjgmoffkecnmcaaBr2
namespace Go.Proofs.Ytjgmoffkecnmcaa
open Go.RowKit
set_option linter.unusedSimpArgs false
set_option linter.unusedVariables false
set_option maxRecDepth 20000

set_option maxHeartbeats 4000000 in
/-- The errors. -/
theorem specTri_err (n : Int) (A : Option Addr) (c : Nat) (es : List (Int × Int)) (a b d : Int) (w : World) (hl : es.length ≤ 1048576) (hr : RdE w A es) (qg qv : Bool) (hq : Hid (isGraphB n es = qg)) (hv : Hid ([a, b, d].all (fun v => inB v 0 (n - 1)) = qv)) (j1 j2 j3 : Int) (hj1 : Hid (joinC es a b es.length = j1)) (hj2 : Hid (joinC es b d es.length = j2)) (hj3 : Hid (joinC es a d es.length = j3)) (r : Int)
    (h : (gcode qg qv = r ∧ r ≠ 0) ∨ (gcode qg qv = 0 ∧ r = 5 ∧ (a = b ∨ (a ≠ b ∧ b = d) ∨ (a ≠ b ∧ b ≠ d ∧ a = d) ∨ (a ≠ b ∧ b ≠ d ∧ a ≠ d ∧ j1 ≠ 1) ∨ (a ≠ b ∧ b ≠ d ∧ a ≠ d ∧ j1 = 1 ∧ j2 ≠ 1) ∨ (a ≠ b ∧ b ≠ d ∧ a ≠ d ∧ j1 = 1 ∧ j2 = 1 ∧ j3 ≠ 1)))) :
    Calls Try.prog 12 #[.agg #[.int .i64 n, .slice A es.length c], .int .i64 a, .int .i64 b, .int .i64 d] w fun e w' => RetG w' w.heap.size e 0 [] r ∧ Below w.heap.size w w' := by
  have cv := fun W G (hW : Below w.heap.size w W) (hG : RdI W G [a, b, d]) => l06Vertices_b n A c es G 3 [a, b, d] W qg qv hq hv hl (by simp) (hr.below hW) hG
  have C1 := fun W (hW : Below w.heap.size w W) => l06Joined_b n A c es a b W hl (hr.below hW)
  have C2 := fun W (hW : Below w.heap.size w W) => l06Joined_b n A c es b d W hl (hr.below hW)
  have C3 := fun W (hW : Below w.heap.size w W) => l06Joined_b n A c es a d W hl (hr.below hW)
  rw [hj1.out] at C1
  rw [hj2.out] at C2
  rw [hj3.out] at C3
  have C1 := Lib.hid C1
  have C2 := Lib.hid C2
  have C3 := Lib.hid C3
  clear hr hq hv hj1 hj2 hj3 hl
  generalize joinF es a b es.length = i1 at *
  generalize joinF es b d es.length = i2 at *
  generalize joinF es a d es.length = i3 at *
  generalize es.length = L at *
  rcases h with ⟨h0, hr0⟩ | ⟨h0, rfl, h⟩
  · have g1 : (r != 0) = true := by simpa using hr0
    rw [h0] at cv
    have cv := Lib.hid cv
    clear h0 hr0
    go_enter Try.func12, Try.ntmps12
    go_wp2_with fail
    refine (cv.out (((w.alloc (.cells #[.int .i64 n, .slice A L c] 28)).alloc (.cells #[.int .i64 0, .slice none 0 0] 28)).alloc (.cells #[.int .i64 a, .int .i64 b, .int .i64 d] 2)) (some ⟨w.heap.size + 1 + 1, 0, none⟩) (by (repeat' (first | (with_reducible exact Below.refl _ _) | (with_reducible assumption) | (with_reducible refine Below.alloc ?_ ?_ _) | (with_reducible refine Below.drew ?_) | (with_reducible refine below_drewN ?_ _) | (with_reducible refine Below.setCell ?_ ?_ _) | (with_reducible refine Below.trans ?_ (Below.mono (by assumption) ?_)) | (first | omega | (simp only [World.size_alloc, World.size_setCell, World.size_drew]; omega) | (simp; omega) | (simp; done))))) (blkI_rd (t := 2) (xs := [a, b, d]) (Blk.new' _ (by simp)))).mono ?_
    rintro e w1 ⟨rfl, hb1'⟩
    have hb1 : Below ((w.alloc (.cells #[.int .i64 n, .slice A L c] 28)).alloc (.cells #[.int .i64 0, .slice none 0 0] 28)).heap.size ((w.alloc (.cells #[.int .i64 n, .slice A L c] 28)).alloc (.cells #[.int .i64 0, .slice none 0 0] 28)) w1 := (Below.alloc (Below.refl _ _) (Nat.le_refl _) _).trans (hb1'.mono (by simp))
    clear hb1'
    have HG1 := Lib.hid (((Blk.new w _ _).alloc _).below hb1 (by simp <;> omega) : Blk w1 w.heap.size 28 #[.int .i64 n, .slice A L c])
    have HZ1 := Lib.hid ((Blk.new' (n := w.heap.size + 1) _ (by simp)).below hb1 (by simp) : Blk w1 (w.heap.size + 1) 28 #[.int .i64 0, .slice none 0 0])
    have Hb1 : Hid (Below w.heap.size w w1) := by show Below _ _ _; exact Below.trans (b := ((w.alloc (.cells #[.int .i64 n, .slice A L c] 28)).alloc (.cells #[.int .i64 0, .slice none 0 0] 28))) (by (repeat' (first | (with_reducible exact Below.refl _ _) | (with_reducible assumption) | (with_reducible refine Below.alloc ?_ ?_ _) | (with_reducible refine Below.drew ?_) | (with_reducible refine below_drewN ?_ _) | (with_reducible refine Below.setCell ?_ ?_ _) | (with_reducible refine Below.trans ?_ (Below.mono (by assumption) ?_)) | (first | omega | (simp only [World.size_alloc, World.size_setCell, World.size_drew]; omega) | (simp; omega) | (simp; done))))) (hb1.mono (by simp; omega))
    clear hb1
    have k0 := HG1.out.cellAt 0 _ rfl
    have k1 := HG1.out.cellAt 1 _ rfl
    have z9 := HZ1.out.lt
    have x0 := HZ1.out.cellAt 0 _ rfl
    have x1 : (w1.setCell ⟨w.heap.size + 1, 0, none⟩ (.int .i64 0)).cell? ⟨w.heap.size + 1, 1, none⟩ = some (.slice none 0 0) := (sc_other (by simp)).trans (HZ1.out.cellAt 1 _ rfl)
    have f0 := HZ1.out.frozen 0
    have f1 := HZ1.out.frozen 1
    go_wp2
    refine ret_cell_tmp Try.results12 Try.underlying28 rfl (by kernel_rfl) rfl ((HZ1.out.set_ 0 (.int .i64 0)).set_ 1 (.slice none 0 0)) rfl rfl ⟨⟨none, 0, rfl, FrE.nil⟩, (Hb1.out.setCell (by show w.heap.size ≤ w.heap.size + 1; omega) _).setCell (by show w.heap.size ≤ w.heap.size + 1; omega) _⟩

  · rw [h0] at cv
    have cv := Lib.hid cv
    clear h0
    go_enter Try.func12, Try.ntmps12
    go_wp2_with fail
    refine (cv.out (((w.alloc (.cells #[.int .i64 n, .slice A L c] 28)).alloc (.cells #[.int .i64 0, .slice none 0 0] 28)).alloc (.cells #[.int .i64 a, .int .i64 b, .int .i64 d] 2)) (some ⟨w.heap.size + 1 + 1, 0, none⟩) (by (repeat' (first | (with_reducible exact Below.refl _ _) | (with_reducible assumption) | (with_reducible refine Below.alloc ?_ ?_ _) | (with_reducible refine Below.drew ?_) | (with_reducible refine below_drewN ?_ _) | (with_reducible refine Below.setCell ?_ ?_ _) | (with_reducible refine Below.trans ?_ (Below.mono (by assumption) ?_)) | (first | omega | (simp only [World.size_alloc, World.size_setCell, World.size_drew]; omega) | (simp; omega) | (simp; done))))) (blkI_rd (t := 2) (xs := [a, b, d]) (Blk.new' _ (by simp)))).mono ?_
    rintro e w1 ⟨rfl, hb1'⟩
    have hb1 : Below ((w.alloc (.cells #[.int .i64 n, .slice A L c] 28)).alloc (.cells #[.int .i64 0, .slice none 0 0] 28)).heap.size ((w.alloc (.cells #[.int .i64 n, .slice A L c] 28)).alloc (.cells #[.int .i64 0, .slice none 0 0] 28)) w1 := (Below.alloc (Below.refl _ _) (Nat.le_refl _) _).trans (hb1'.mono (by simp))
    clear hb1'
    have HG1 := Lib.hid (((Blk.new w _ _).alloc _).below hb1 (by simp <;> omega) : Blk w1 w.heap.size 28 #[.int .i64 n, .slice A L c])
    have HZ1 := Lib.hid ((Blk.new' (n := w.heap.size + 1) _ (by simp)).below hb1 (by simp) : Blk w1 (w.heap.size + 1) 28 #[.int .i64 0, .slice none 0 0])
    have Hb1 : Hid (Below w.heap.size w w1) := by show Below _ _ _; exact Below.trans (b := ((w.alloc (.cells #[.int .i64 n, .slice A L c] 28)).alloc (.cells #[.int .i64 0, .slice none 0 0] 28))) (by (repeat' (first | (with_reducible exact Below.refl _ _) | (with_reducible assumption) | (with_reducible refine Below.alloc ?_ ?_ _) | (with_reducible refine Below.drew ?_) | (with_reducible refine below_drewN ?_ _) | (with_reducible refine Below.setCell ?_ ?_ _) | (with_reducible refine Below.trans ?_ (Below.mono (by assumption) ?_)) | (first | omega | (simp only [World.size_alloc, World.size_setCell, World.size_drew]; omega) | (simp; omega) | (simp; done))))) (hb1.mono (by simp; omega))
    clear hb1
    have k0 := HG1.out.cellAt 0 _ rfl
    have k1 := HG1.out.cellAt 1 _ rfl
    have z9 := HZ1.out.lt
    go_wp2_with fail
    refine (C1.out w1 Hb1.out).mono ?_
    rintro e w2 ⟨rfl, hb2⟩
    have hbb2 := hb2
    have HG2 := Lib.hid (HG1.out.below hbb2 (by have := HZ1.out.lt; omega))
    have HZ2 := Lib.hid (HZ1.out.below hbb2 HZ1.out.lt)
    have Hb2 : Hid (Below w.heap.size w w2) := Hb1.out.trans (hbb2.mono (by have := HZ1.out.lt; omega))
    clear k0 k1 z9 hb2 hbb2 HG1 HZ1 Hb1
    have k0 := HG2.out.cellAt 0 _ rfl
    have k1 := HG2.out.cellAt 1 _ rfl
    have z9 := HZ2.out.lt
    go_wp2_with fail
    refine (C2.out w2 Hb2.out).mono ?_
    rintro e w3 ⟨rfl, hb3⟩
    have hbb3 := hb3
    have HG3 := Lib.hid (HG2.out.below hbb3 (by have := HZ2.out.lt; omega))
    have HZ3 := Lib.hid (HZ2.out.below hbb3 HZ2.out.lt)
    have Hb3 : Hid (Below w.heap.size w w3) := Hb2.out.trans (hbb3.mono (by have := HZ2.out.lt; omega))
    clear k0 k1 z9 hb3 hbb3 HG2 HZ2 Hb2
    have k0 := HG3.out.cellAt 0 _ rfl
    have k1 := HG3.out.cellAt 1 _ rfl
    have z9 := HZ3.out.lt
    go_wp2_with fail
    refine (C3.out w3 Hb3.out).mono ?_
    rintro e w4 ⟨rfl, hb4⟩
    have hbb4 := hb4
    have HG4 := Lib.hid (HG3.out.below hbb4 (by have := HZ3.out.lt; omega))
    have HZ4 := Lib.hid (HZ3.out.below hbb4 HZ3.out.lt)
    have Hb4 : Hid (Below w.heap.size w w4) := Hb3.out.trans (hbb4.mono (by have := HZ3.out.lt; omega))
    clear k0 k1 z9 hb4 hbb4 HG3 HZ3 Hb3
    have k0 := HG4.out.cellAt 0 _ rfl
    have k1 := HG4.out.cellAt 1 _ rfl
    have z9 := HZ4.out.lt

    rcases h with h1 | ⟨h1, h2⟩ | ⟨h1, h2, h3⟩ | ⟨h1, h2, h3, h4⟩ | ⟨h1, h2, h3, h4, h5⟩ | ⟨h1, h2, h3, h4, h5, h6⟩
    · have g2 : (a == b) = true := by simpa using h1
      clear h1
      have x0 := HZ4.out.cellAt 0 _ rfl
      have x1 : (w4.setCell ⟨w.heap.size + 1, 0, none⟩ (.int .i64 0)).cell? ⟨w.heap.size + 1, 1, none⟩ = some (.slice none 0 0) := (sc_other (by simp)).trans (HZ4.out.cellAt 1 _ rfl)
      have f0 := HZ4.out.frozen 0
      have f1 := HZ4.out.frozen 1
      go_wp2
      refine ret_cell_tmp Try.results12 Try.underlying28 rfl (by kernel_rfl) rfl ((HZ4.out.set_ 0 (.int .i64 0)).set_ 1 (.slice none 0 0)) rfl rfl ⟨⟨none, 0, rfl, FrE.nil⟩, (Hb4.out.setCell (by show w.heap.size ≤ w.heap.size + 1; omega) _).setCell (by show w.heap.size ≤ w.heap.size + 1; omega) _⟩
    · have g2 : (a == b) = false := by simpa using h1
      have g3 : (b == d) = true := by simpa using h2
      clear h1 h2
      have x0 := HZ4.out.cellAt 0 _ rfl
      have x1 : (w4.setCell ⟨w.heap.size + 1, 0, none⟩ (.int .i64 0)).cell? ⟨w.heap.size + 1, 1, none⟩ = some (.slice none 0 0) := (sc_other (by simp)).trans (HZ4.out.cellAt 1 _ rfl)
      have f0 := HZ4.out.frozen 0
      have f1 := HZ4.out.frozen 1
      go_wp2
      refine ret_cell_tmp Try.results12 Try.underlying28 rfl (by kernel_rfl) rfl ((HZ4.out.set_ 0 (.int .i64 0)).set_ 1 (.slice none 0 0)) rfl rfl ⟨⟨none, 0, rfl, FrE.nil⟩, (Hb4.out.setCell (by show w.heap.size ≤ w.heap.size + 1; omega) _).setCell (by show w.heap.size ≤ w.heap.size + 1; omega) _⟩
    · have g2 : (a == b) = false := by simpa using h1
      have g3 : (b == d) = false := by simpa using h2
      have g4 : (a == d) = true := by simpa using h3
      clear h1 h2 h3
      have x0 := HZ4.out.cellAt 0 _ rfl
      have x1 : (w4.setCell ⟨w.heap.size + 1, 0, none⟩ (.int .i64 0)).cell? ⟨w.heap.size + 1, 1, none⟩ = some (.slice none 0 0) := (sc_other (by simp)).trans (HZ4.out.cellAt 1 _ rfl)
      have f0 := HZ4.out.frozen 0
      have f1 := HZ4.out.frozen 1
      go_wp2
      refine ret_cell_tmp Try.results12 Try.underlying28 rfl (by kernel_rfl) rfl ((HZ4.out.set_ 0 (.int .i64 0)).set_ 1 (.slice none 0 0)) rfl rfl ⟨⟨none, 0, rfl, FrE.nil⟩, (Hb4.out.setCell (by show w.heap.size ≤ w.heap.size + 1; omega) _).setCell (by show w.heap.size ≤ w.heap.size + 1; omega) _⟩
    · have g2 : (a == b) = false := by simpa using h1
      have g3 : (b == d) = false := by simpa using h2
      have g4 : (a == d) = false := by simpa using h3
      have g5 : (j1 != 1) = true := by simpa using h4
      clear h1 h2 h3 h4
      have x0 := HZ4.out.cellAt 0 _ rfl
      have x1 : (w4.setCell ⟨w.heap.size + 1, 0, none⟩ (.int .i64 0)).cell? ⟨w.heap.size + 1, 1, none⟩ = some (.slice none 0 0) := (sc_other (by simp)).trans (HZ4.out.cellAt 1 _ rfl)
      have f0 := HZ4.out.frozen 0
      have f1 := HZ4.out.frozen 1
      go_wp2
      refine ret_cell_tmp Try.results12 Try.underlying28 rfl (by kernel_rfl) rfl ((HZ4.out.set_ 0 (.int .i64 0)).set_ 1 (.slice none 0 0)) rfl rfl ⟨⟨none, 0, rfl, FrE.nil⟩, (Hb4.out.setCell (by show w.heap.size ≤ w.heap.size + 1; omega) _).setCell (by show w.heap.size ≤ w.heap.size + 1; omega) _⟩
    · have g2 : (a == b) = false := by simpa using h1
      have g3 : (b == d) = false := by simpa using h2
      have g4 : (a == d) = false := by simpa using h3
      have g5 : (j1 != 1) = false := by simpa using h4
      have g6 : (j2 != 1) = true := by simpa using h5
      clear h1 h2 h3 h4 h5
      have x0 := HZ4.out.cellAt 0 _ rfl
      have x1 : (w4.setCell ⟨w.heap.size + 1, 0, none⟩ (.int .i64 0)).cell? ⟨w.heap.size + 1, 1, none⟩ = some (.slice none 0 0) := (sc_other (by simp)).trans (HZ4.out.cellAt 1 _ rfl)
      have f0 := HZ4.out.frozen 0
      have f1 := HZ4.out.frozen 1
      go_wp2
      refine ret_cell_tmp Try.results12 Try.underlying28 rfl (by kernel_rfl) rfl ((HZ4.out.set_ 0 (.int .i64 0)).set_ 1 (.slice none 0 0)) rfl rfl ⟨⟨none, 0, rfl, FrE.nil⟩, (Hb4.out.setCell (by show w.heap.size ≤ w.heap.size + 1; omega) _).setCell (by show w.heap.size ≤ w.heap.size + 1; omega) _⟩
    · have g2 : (a == b) = false := by simpa using h1
      have g3 : (b == d) = false := by simpa using h2
      have g4 : (a == d) = false := by simpa using h3
      have g5 : (j1 != 1) = false := by simpa using h4
      have g6 : (j2 != 1) = false := by simpa using h5
      have g7 : (j3 != 1) = true := by simpa using h6
      clear h1 h2 h3 h4 h5 h6
      have x0 := HZ4.out.cellAt 0 _ rfl
      have x1 : (w4.setCell ⟨w.heap.size + 1, 0, none⟩ (.int .i64 0)).cell? ⟨w.heap.size + 1, 1, none⟩ = some (.slice none 0 0) := (sc_other (by simp)).trans (HZ4.out.cellAt 1 _ rfl)
      have f0 := HZ4.out.frozen 0
      have f1 := HZ4.out.frozen 1
      go_wp2
      refine ret_cell_tmp Try.results12 Try.underlying28 rfl (by kernel_rfl) rfl ((HZ4.out.set_ 0 (.int .i64 0)).set_ 1 (.slice none 0 0)) rfl rfl ⟨⟨none, 0, rfl, FrE.nil⟩, (Hb4.out.setCell (by show w.heap.size ≤ w.heap.size + 1; omega) _).setCell (by show w.heap.size ≤ w.heap.size + 1; omega) _⟩
end Go.Proofs.Ytjgmoffkecnmcaa
