/- The reference's StarProduct. No statement of the program is proved here. -/
import Derived.Test.YtjgmoffkecnmcaaSr1
import Derived.Test.YtjgmoffkecnmcaaOv4
import Derived.Test.YtjgmoffkecnmcaaSr3
namespace Go.Proofs.Ytjgmoffkecnmcaa
open Go.RowKit
set_option linter.unusedSimpArgs false
set_option linter.unusedVariables false
set_option maxRecDepth 20000

set_option maxHeartbeats 8000000 in
/-- The errors. -/
theorem specStar_err (n : Int) (A : Option Addr) (c : Nat) (es : List (Int × Int)) (v m : Int) (B : Option Addr) (d : Nat) (hs : List (Int × Int)) (x : Int) (w : World) (hl : es.length ≤ 1048576) (hl2 : hs.length ≤ 1048576) (hr : RdE w A es) (hr2 : RdE w B hs) (q1 q2 q3 q4 : Bool) (h1 : Hid (isGraphB n es = q1)) (h2 : Hid (isGraphB m hs = q2)) (h3 : Hid ([v].all (fun v => inB v 0 (n - 1)) = q3)) (h4 : Hid ([x].all (fun v => inB v 0 (m - 1)) = q4)) (r : Int)
    (h : (q1 = false ∧ r = 1) ∨ (q1 = true ∧ q2 = false ∧ r = 1) ∨ (q1 = true ∧ q2 = true ∧ q3 = false ∧ r = 2) ∨ (q1 = true ∧ q2 = true ∧ q3 = true ∧ q4 = false ∧ r = 2) ∨ (q1 = true ∧ q2 = true ∧ q3 = true ∧ q4 = true ∧ n = 2 ∧ r = 5) ∨ (q1 = true ∧ q2 = true ∧ q3 = true ∧ q4 = true ∧ n ≠ 2 ∧ m = 2 ∧ r = 5) ∨ (q1 = true ∧ q2 = true ∧ q3 = true ∧ q4 = true ∧ n ≠ 2 ∧ m ≠ 2 ∧ n + m - 2 > 20 ∧ (2 ≤ n ∧ n ≤ 20 ∧ 2 ≤ m ∧ m ≤ 20) ∧ r = 3)) :
    Calls Try.prog 6 #[.agg #[.int .i64 n, .slice A es.length c], .int .i64 v, .agg #[.int .i64 m, .slice B hs.length d], .int .i64 x] w fun e w' => RetG w' w.heap.size e 0 [] r ∧ Below w.heap.size w w' := by
  have c1 := Lib.hid fun W (hW : Below w.heap.size w W) => l01Is_b n A c es W q1 h1 hl (hr.below hW)
  have c2 := Lib.hid fun W (hW : Below w.heap.size w W) => l01Is_b m B d hs W q2 h2 hl2 (hr2.below hW)
  have c3 := fun W G (hW : Below w.heap.size w W) (hG : RdI W G [v]) => l06Vertices_b n A c es G 1 [v] W q1 q3 h1 h3 hl (by simp) (hr.below hW) hG
  have c4 := fun W G (hW : Below w.heap.size w W) (hG : RdI W G [x]) => l06Vertices_b m B d hs G 1 [x] W q2 q4 h2 h4 hl2 (by simp) (hr2.below hW) hG
  clear hr hr2 h1 h2 h3 h4
  generalize es.length = L at *
  generalize hs.length = M at *
  rcases h with ⟨rfl, rfl⟩ | ⟨rfl, rfl, rfl⟩ | ⟨rfl, rfl, rfl, rfl⟩ | ⟨rfl, rfl, rfl, rfl, rfl⟩ | ⟨rfl, rfl, rfl, rfl, hn, rfl⟩ | ⟨rfl, rfl, rfl, rfl, hn, hm, rfl⟩ | ⟨rfl, rfl, rfl, rfl, hn, hm, hnm, hb, rfl⟩
  · clear c3 c4 hl hl2
    go_enter Try.func6, Try.ntmps6
    go_wp2_with fail
    refine (c1.out (((w.alloc (.cells #[.int .i64 n, .slice A L c] 28)).alloc (.cells #[.int .i64 m, .slice B M d] 28)).alloc (.cells #[.int .i64 0, .slice none 0 0] 28)) (by (repeat' (first | (with_reducible exact Below.refl _ _) | (with_reducible assumption) | (with_reducible refine Below.alloc ?_ ?_ _) | (with_reducible refine Below.drew ?_) | (with_reducible refine below_drewN ?_ _) | (with_reducible refine Below.setCell ?_ ?_ _) | (with_reducible refine Below.trans ?_ (Below.mono (by assumption) ?_)) | (first | omega | (simp only [World.size_alloc, World.size_setCell, World.size_drew]; omega) | (simp; omega) | (simp; done)))))).mono ?_
    rintro e w1 ⟨rfl, hb1⟩
    have KG1 := Lib.hid (((((Blk.new w _ _).alloc _).alloc _).below hb1 (by simp <;> omega)) : Blk w1 w.heap.size 28 #[.int .i64 n, .slice A L c])
    have KH1 := Lib.hid ((((Blk.new' (n := w.heap.size + 1) _ (by simp)).alloc _).below hb1 (by simp)) : Blk w1 (w.heap.size + 1) 28 #[.int .i64 m, .slice B M d])
    have HZ1 := Lib.hid (((Blk.new' (n := w.heap.size + 2) _ (by simp)).below hb1 (by simp)) : Blk w1 (w.heap.size + 2) 28 #[.int .i64 0, .slice none 0 0])
    have Hb1 : Hid (Below w.heap.size w w1) := by show Below _ _ _; exact Below.trans (b := (((w.alloc (.cells #[.int .i64 n, .slice A L c] 28)).alloc (.cells #[.int .i64 m, .slice B M d] 28)).alloc (.cells #[.int .i64 0, .slice none 0 0] 28))) (by (repeat' (first | (with_reducible exact Below.refl _ _) | (with_reducible assumption) | (with_reducible refine Below.alloc ?_ ?_ _) | (with_reducible refine Below.drew ?_) | (with_reducible refine below_drewN ?_ _) | (with_reducible refine Below.setCell ?_ ?_ _) | (with_reducible refine Below.trans ?_ (Below.mono (by assumption) ?_)) | (first | omega | (simp only [World.size_alloc, World.size_setCell, World.size_drew]; omega) | (simp; omega) | (simp; done))))) (hb1.mono (by simp <;> omega))
    have k0 := KG1.out.cellAt 0 _ rfl
    have k1 := KG1.out.cellAt 1 _ rfl
    have k2 := KH1.out.cellAt 0 _ rfl
    have k3 := KH1.out.cellAt 1 _ rfl
    have z9 := HZ1.out.lt
    clear hb1
    have x0 := HZ1.out.cellAt 0 _ rfl
    have x1 : (w1.setCell ⟨w.heap.size + 2, 0, none⟩ (.int .i64 0)).cell? ⟨w.heap.size + 2, 1, none⟩ = some (.slice none 0 0) := (sc_other (by simp)).trans (HZ1.out.cellAt 1 _ rfl)
    have f0 := HZ1.out.frozen 0
    have f1 := HZ1.out.frozen 1
    go_wp2
    refine ret_cell_tmp Try.results6 Try.underlying28 rfl (by kernel_rfl) rfl ((HZ1.out.set_ 0 (.int .i64 0)).set_ 1 (.slice none 0 0)) rfl rfl ⟨⟨none, 0, rfl, FrE.nil⟩, (Hb1.out.setCell (by show w.heap.size ≤ w.heap.size + 2; omega) _).setCell (by show w.heap.size ≤ w.heap.size + 2; omega) _⟩
  · clear c3 c4 hl hl2
    go_enter Try.func6, Try.ntmps6
    go_wp2_with fail
    refine (c1.out (((w.alloc (.cells #[.int .i64 n, .slice A L c] 28)).alloc (.cells #[.int .i64 m, .slice B M d] 28)).alloc (.cells #[.int .i64 0, .slice none 0 0] 28)) (by (repeat' (first | (with_reducible exact Below.refl _ _) | (with_reducible assumption) | (with_reducible refine Below.alloc ?_ ?_ _) | (with_reducible refine Below.drew ?_) | (with_reducible refine below_drewN ?_ _) | (with_reducible refine Below.setCell ?_ ?_ _) | (with_reducible refine Below.trans ?_ (Below.mono (by assumption) ?_)) | (first | omega | (simp only [World.size_alloc, World.size_setCell, World.size_drew]; omega) | (simp; omega) | (simp; done)))))).mono ?_
    rintro e w1 ⟨rfl, hb1⟩
    have KG1 := Lib.hid (((((Blk.new w _ _).alloc _).alloc _).below hb1 (by simp <;> omega)) : Blk w1 w.heap.size 28 #[.int .i64 n, .slice A L c])
    have KH1 := Lib.hid ((((Blk.new' (n := w.heap.size + 1) _ (by simp)).alloc _).below hb1 (by simp)) : Blk w1 (w.heap.size + 1) 28 #[.int .i64 m, .slice B M d])
    have HZ1 := Lib.hid (((Blk.new' (n := w.heap.size + 2) _ (by simp)).below hb1 (by simp)) : Blk w1 (w.heap.size + 2) 28 #[.int .i64 0, .slice none 0 0])
    have Hb1 : Hid (Below w.heap.size w w1) := by show Below _ _ _; exact Below.trans (b := (((w.alloc (.cells #[.int .i64 n, .slice A L c] 28)).alloc (.cells #[.int .i64 m, .slice B M d] 28)).alloc (.cells #[.int .i64 0, .slice none 0 0] 28))) (by (repeat' (first | (with_reducible exact Below.refl _ _) | (with_reducible assumption) | (with_reducible refine Below.alloc ?_ ?_ _) | (with_reducible refine Below.drew ?_) | (with_reducible refine below_drewN ?_ _) | (with_reducible refine Below.setCell ?_ ?_ _) | (with_reducible refine Below.trans ?_ (Below.mono (by assumption) ?_)) | (first | omega | (simp only [World.size_alloc, World.size_setCell, World.size_drew]; omega) | (simp; omega) | (simp; done))))) (hb1.mono (by simp <;> omega))
    have k0 := KG1.out.cellAt 0 _ rfl
    have k1 := KG1.out.cellAt 1 _ rfl
    have k2 := KH1.out.cellAt 0 _ rfl
    have k3 := KH1.out.cellAt 1 _ rfl
    have z9 := HZ1.out.lt
    clear hb1
    go_wp2_with fail
    refine (c2.out w1 Hb1.out).mono ?_
    rintro e w2 ⟨rfl, hb2⟩
    have hbb2 := hb2
    have KG2 := Lib.hid (KG1.out.below hbb2 (by have := HZ1.out.lt; omega))
    have KH2 := Lib.hid (KH1.out.below hbb2 (by have := HZ1.out.lt; omega))
    have HZ2 := Lib.hid (HZ1.out.below hbb2 HZ1.out.lt)
    have Hb2 : Hid (Below w.heap.size w w2) := Hb1.out.trans (hbb2.mono (by have := HZ1.out.lt; omega))
    clear k0 k1 k2 k3 z9 hb2 hbb2 KG1 KH1 HZ1 Hb1
    have k0 := KG2.out.cellAt 0 _ rfl
    have k1 := KG2.out.cellAt 1 _ rfl
    have k2 := KH2.out.cellAt 0 _ rfl
    have k3 := KH2.out.cellAt 1 _ rfl
    have z9 := HZ2.out.lt
    have x0 := HZ2.out.cellAt 0 _ rfl
    have x1 : (w2.setCell ⟨w.heap.size + 2, 0, none⟩ (.int .i64 0)).cell? ⟨w.heap.size + 2, 1, none⟩ = some (.slice none 0 0) := (sc_other (by simp)).trans (HZ2.out.cellAt 1 _ rfl)
    have f0 := HZ2.out.frozen 0
    have f1 := HZ2.out.frozen 1
    go_wp2
    refine ret_cell_tmp Try.results6 Try.underlying28 rfl (by kernel_rfl) rfl ((HZ2.out.set_ 0 (.int .i64 0)).set_ 1 (.slice none 0 0)) rfl rfl ⟨⟨none, 0, rfl, FrE.nil⟩, (Hb2.out.setCell (by show w.heap.size ≤ w.heap.size + 2; omega) _).setCell (by show w.heap.size ≤ w.heap.size + 2; omega) _⟩
  · rw [show gcode true false = 2 from rfl] at c3
    have c3 := Lib.hid c3
    clear c4 hl hl2
    go_enter Try.func6, Try.ntmps6
    go_wp2_with fail
    refine (c1.out (((w.alloc (.cells #[.int .i64 n, .slice A L c] 28)).alloc (.cells #[.int .i64 m, .slice B M d] 28)).alloc (.cells #[.int .i64 0, .slice none 0 0] 28)) (by (repeat' (first | (with_reducible exact Below.refl _ _) | (with_reducible assumption) | (with_reducible refine Below.alloc ?_ ?_ _) | (with_reducible refine Below.drew ?_) | (with_reducible refine below_drewN ?_ _) | (with_reducible refine Below.setCell ?_ ?_ _) | (with_reducible refine Below.trans ?_ (Below.mono (by assumption) ?_)) | (first | omega | (simp only [World.size_alloc, World.size_setCell, World.size_drew]; omega) | (simp; omega) | (simp; done)))))).mono ?_
    rintro e w1 ⟨rfl, hb1⟩
    have KG1 := Lib.hid (((((Blk.new w _ _).alloc _).alloc _).below hb1 (by simp <;> omega)) : Blk w1 w.heap.size 28 #[.int .i64 n, .slice A L c])
    have KH1 := Lib.hid ((((Blk.new' (n := w.heap.size + 1) _ (by simp)).alloc _).below hb1 (by simp)) : Blk w1 (w.heap.size + 1) 28 #[.int .i64 m, .slice B M d])
    have HZ1 := Lib.hid (((Blk.new' (n := w.heap.size + 2) _ (by simp)).below hb1 (by simp)) : Blk w1 (w.heap.size + 2) 28 #[.int .i64 0, .slice none 0 0])
    have Hb1 : Hid (Below w.heap.size w w1) := by show Below _ _ _; exact Below.trans (b := (((w.alloc (.cells #[.int .i64 n, .slice A L c] 28)).alloc (.cells #[.int .i64 m, .slice B M d] 28)).alloc (.cells #[.int .i64 0, .slice none 0 0] 28))) (by (repeat' (first | (with_reducible exact Below.refl _ _) | (with_reducible assumption) | (with_reducible refine Below.alloc ?_ ?_ _) | (with_reducible refine Below.drew ?_) | (with_reducible refine below_drewN ?_ _) | (with_reducible refine Below.setCell ?_ ?_ _) | (with_reducible refine Below.trans ?_ (Below.mono (by assumption) ?_)) | (first | omega | (simp only [World.size_alloc, World.size_setCell, World.size_drew]; omega) | (simp; omega) | (simp; done))))) (hb1.mono (by simp <;> omega))
    have k0 := KG1.out.cellAt 0 _ rfl
    have k1 := KG1.out.cellAt 1 _ rfl
    have k2 := KH1.out.cellAt 0 _ rfl
    have k3 := KH1.out.cellAt 1 _ rfl
    have z9 := HZ1.out.lt
    clear hb1
    go_wp2_with fail
    refine (c2.out w1 Hb1.out).mono ?_
    rintro e w2 ⟨rfl, hb2⟩
    have hbb2 := hb2
    have KG2 := Lib.hid (KG1.out.below hbb2 (by have := HZ1.out.lt; omega))
    have KH2 := Lib.hid (KH1.out.below hbb2 (by have := HZ1.out.lt; omega))
    have HZ2 := Lib.hid (HZ1.out.below hbb2 HZ1.out.lt)
    have Hb2 : Hid (Below w.heap.size w w2) := Hb1.out.trans (hbb2.mono (by have := HZ1.out.lt; omega))
    clear k0 k1 k2 k3 z9 hb2 hbb2 KG1 KH1 HZ1 Hb1
    have k0 := KG2.out.cellAt 0 _ rfl
    have k1 := KG2.out.cellAt 1 _ rfl
    have k2 := KH2.out.cellAt 0 _ rfl
    have k3 := KH2.out.cellAt 1 _ rfl
    have z9 := HZ2.out.lt
    go_wp2_with fail
    refine (c3.out (w2.alloc (.cells #[.int .i64 v] 2)) (some ⟨w2.heap.size, 0, none⟩) (Hb2.out.alloc (by omega) _) (blkI_rd (t := 2) (xs := [v]) (Blk.new' _ rfl))).mono ?_
    rintro e w3 ⟨rfl, hb3⟩
    have hbb3 : Below w2.heap.size w2 w3 := (Below.alloc (Below.refl _ _) (Nat.le_refl _) _).trans (hb3.mono (by simp))
    have KG3 := Lib.hid (KG2.out.below hbb3 (by have := HZ2.out.lt; omega))
    have KH3 := Lib.hid (KH2.out.below hbb3 (by have := HZ2.out.lt; omega))
    have HZ3 := Lib.hid (HZ2.out.below hbb3 HZ2.out.lt)
    have Hb3 : Hid (Below w.heap.size w w3) := Hb2.out.trans (hbb3.mono (by have := HZ2.out.lt; omega))
    clear k0 k1 k2 k3 z9 hb3 hbb3 KG2 KH2 HZ2 Hb2
    have k0 := KG3.out.cellAt 0 _ rfl
    have k1 := KG3.out.cellAt 1 _ rfl
    have k2 := KH3.out.cellAt 0 _ rfl
    have k3 := KH3.out.cellAt 1 _ rfl
    have z9 := HZ3.out.lt
    have x0 := HZ3.out.cellAt 0 _ rfl
    have x1 : (w3.setCell ⟨w.heap.size + 2, 0, none⟩ (.int .i64 0)).cell? ⟨w.heap.size + 2, 1, none⟩ = some (.slice none 0 0) := (sc_other (by simp)).trans (HZ3.out.cellAt 1 _ rfl)
    have f0 := HZ3.out.frozen 0
    have f1 := HZ3.out.frozen 1
    go_wp2
    refine ret_cell_tmp Try.results6 Try.underlying28 rfl (by kernel_rfl) rfl ((HZ3.out.set_ 0 (.int .i64 0)).set_ 1 (.slice none 0 0)) rfl rfl ⟨⟨none, 0, rfl, FrE.nil⟩, (Hb3.out.setCell (by show w.heap.size ≤ w.heap.size + 2; omega) _).setCell (by show w.heap.size ≤ w.heap.size + 2; omega) _⟩
  · rw [show gcode true true = 0 from rfl] at c3
    rw [show gcode true false = 2 from rfl] at c4
    have c3 := Lib.hid c3
    have c4 := Lib.hid c4
    clear hl hl2
    go_enter Try.func6, Try.ntmps6
    go_wp2_with fail
    refine (c1.out (((w.alloc (.cells #[.int .i64 n, .slice A L c] 28)).alloc (.cells #[.int .i64 m, .slice B M d] 28)).alloc (.cells #[.int .i64 0, .slice none 0 0] 28)) (by (repeat' (first | (with_reducible exact Below.refl _ _) | (with_reducible assumption) | (with_reducible refine Below.alloc ?_ ?_ _) | (with_reducible refine Below.drew ?_) | (with_reducible refine below_drewN ?_ _) | (with_reducible refine Below.setCell ?_ ?_ _) | (with_reducible refine Below.trans ?_ (Below.mono (by assumption) ?_)) | (first | omega | (simp only [World.size_alloc, World.size_setCell, World.size_drew]; omega) | (simp; omega) | (simp; done)))))).mono ?_
    rintro e w1 ⟨rfl, hb1⟩
    have KG1 := Lib.hid (((((Blk.new w _ _).alloc _).alloc _).below hb1 (by simp <;> omega)) : Blk w1 w.heap.size 28 #[.int .i64 n, .slice A L c])
    have KH1 := Lib.hid ((((Blk.new' (n := w.heap.size + 1) _ (by simp)).alloc _).below hb1 (by simp)) : Blk w1 (w.heap.size + 1) 28 #[.int .i64 m, .slice B M d])
    have HZ1 := Lib.hid (((Blk.new' (n := w.heap.size + 2) _ (by simp)).below hb1 (by simp)) : Blk w1 (w.heap.size + 2) 28 #[.int .i64 0, .slice none 0 0])
    have Hb1 : Hid (Below w.heap.size w w1) := by show Below _ _ _; exact Below.trans (b := (((w.alloc (.cells #[.int .i64 n, .slice A L c] 28)).alloc (.cells #[.int .i64 m, .slice B M d] 28)).alloc (.cells #[.int .i64 0, .slice none 0 0] 28))) (by (repeat' (first | (with_reducible exact Below.refl _ _) | (with_reducible assumption) | (with_reducible refine Below.alloc ?_ ?_ _) | (with_reducible refine Below.drew ?_) | (with_reducible refine below_drewN ?_ _) | (with_reducible refine Below.setCell ?_ ?_ _) | (with_reducible refine Below.trans ?_ (Below.mono (by assumption) ?_)) | (first | omega | (simp only [World.size_alloc, World.size_setCell, World.size_drew]; omega) | (simp; omega) | (simp; done))))) (hb1.mono (by simp <;> omega))
    have k0 := KG1.out.cellAt 0 _ rfl
    have k1 := KG1.out.cellAt 1 _ rfl
    have k2 := KH1.out.cellAt 0 _ rfl
    have k3 := KH1.out.cellAt 1 _ rfl
    have z9 := HZ1.out.lt
    clear hb1
    go_wp2_with fail
    refine (c2.out w1 Hb1.out).mono ?_
    rintro e w2 ⟨rfl, hb2⟩
    have hbb2 := hb2
    have KG2 := Lib.hid (KG1.out.below hbb2 (by have := HZ1.out.lt; omega))
    have KH2 := Lib.hid (KH1.out.below hbb2 (by have := HZ1.out.lt; omega))
    have HZ2 := Lib.hid (HZ1.out.below hbb2 HZ1.out.lt)
    have Hb2 : Hid (Below w.heap.size w w2) := Hb1.out.trans (hbb2.mono (by have := HZ1.out.lt; omega))
    clear k0 k1 k2 k3 z9 hb2 hbb2 KG1 KH1 HZ1 Hb1
    have k0 := KG2.out.cellAt 0 _ rfl
    have k1 := KG2.out.cellAt 1 _ rfl
    have k2 := KH2.out.cellAt 0 _ rfl
    have k3 := KH2.out.cellAt 1 _ rfl
    have z9 := HZ2.out.lt
    go_wp2_with fail
    refine (c3.out (w2.alloc (.cells #[.int .i64 v] 2)) (some ⟨w2.heap.size, 0, none⟩) (Hb2.out.alloc (by omega) _) (blkI_rd (t := 2) (xs := [v]) (Blk.new' _ rfl))).mono ?_
    rintro e w3 ⟨rfl, hb3⟩
    have hbb3 : Below w2.heap.size w2 w3 := (Below.alloc (Below.refl _ _) (Nat.le_refl _) _).trans (hb3.mono (by simp))
    have KG3 := Lib.hid (KG2.out.below hbb3 (by have := HZ2.out.lt; omega))
    have KH3 := Lib.hid (KH2.out.below hbb3 (by have := HZ2.out.lt; omega))
    have HZ3 := Lib.hid (HZ2.out.below hbb3 HZ2.out.lt)
    have Hb3 : Hid (Below w.heap.size w w3) := Hb2.out.trans (hbb3.mono (by have := HZ2.out.lt; omega))
    clear k0 k1 k2 k3 z9 hb3 hbb3 KG2 KH2 HZ2 Hb2
    have k0 := KG3.out.cellAt 0 _ rfl
    have k1 := KG3.out.cellAt 1 _ rfl
    have k2 := KH3.out.cellAt 0 _ rfl
    have k3 := KH3.out.cellAt 1 _ rfl
    have z9 := HZ3.out.lt
    go_wp2_with fail
    refine (c4.out (w3.alloc (.cells #[.int .i64 x] 2)) (some ⟨w3.heap.size, 0, none⟩) (Hb3.out.alloc (by omega) _) (blkI_rd (t := 2) (xs := [x]) (Blk.new' _ rfl))).mono ?_
    rintro e w4 ⟨rfl, hb4⟩
    have hbb4 : Below w3.heap.size w3 w4 := (Below.alloc (Below.refl _ _) (Nat.le_refl _) _).trans (hb4.mono (by simp))
    have KG4 := Lib.hid (KG3.out.below hbb4 (by have := HZ3.out.lt; omega))
    have KH4 := Lib.hid (KH3.out.below hbb4 (by have := HZ3.out.lt; omega))
    have HZ4 := Lib.hid (HZ3.out.below hbb4 HZ3.out.lt)
    have Hb4 : Hid (Below w.heap.size w w4) := Hb3.out.trans (hbb4.mono (by have := HZ3.out.lt; omega))
    clear k0 k1 k2 k3 z9 hb4 hbb4 KG3 KH3 HZ3 Hb3
    have k0 := KG4.out.cellAt 0 _ rfl
    have k1 := KG4.out.cellAt 1 _ rfl
    have k2 := KH4.out.cellAt 0 _ rfl
    have k3 := KH4.out.cellAt 1 _ rfl
    have z9 := HZ4.out.lt
    have x0 := HZ4.out.cellAt 0 _ rfl
    have x1 : (w4.setCell ⟨w.heap.size + 2, 0, none⟩ (.int .i64 0)).cell? ⟨w.heap.size + 2, 1, none⟩ = some (.slice none 0 0) := (sc_other (by simp)).trans (HZ4.out.cellAt 1 _ rfl)
    have f0 := HZ4.out.frozen 0
    have f1 := HZ4.out.frozen 1
    go_wp2
    refine ret_cell_tmp Try.results6 Try.underlying28 rfl (by kernel_rfl) rfl ((HZ4.out.set_ 0 (.int .i64 0)).set_ 1 (.slice none 0 0)) rfl rfl ⟨⟨none, 0, rfl, FrE.nil⟩, (Hb4.out.setCell (by show w.heap.size ≤ w.heap.size + 2; omega) _).setCell (by show w.heap.size ≤ w.heap.size + 2; omega) _⟩
  · rw [show gcode true true = 0 from rfl] at c3
    rw [show gcode true true = 0 from rfl] at c4
    have c3 := Lib.hid c3
    have c4 := Lib.hid c4
    have g1 : (n == 2) = true := by simpa using hn
    clear hn hl hl2
    go_enter Try.func6, Try.ntmps6
    go_wp2_with fail
    refine (c1.out (((w.alloc (.cells #[.int .i64 n, .slice A L c] 28)).alloc (.cells #[.int .i64 m, .slice B M d] 28)).alloc (.cells #[.int .i64 0, .slice none 0 0] 28)) (by (repeat' (first | (with_reducible exact Below.refl _ _) | (with_reducible assumption) | (with_reducible refine Below.alloc ?_ ?_ _) | (with_reducible refine Below.drew ?_) | (with_reducible refine below_drewN ?_ _) | (with_reducible refine Below.setCell ?_ ?_ _) | (with_reducible refine Below.trans ?_ (Below.mono (by assumption) ?_)) | (first | omega | (simp only [World.size_alloc, World.size_setCell, World.size_drew]; omega) | (simp; omega) | (simp; done)))))).mono ?_
    rintro e w1 ⟨rfl, hb1⟩
    have KG1 := Lib.hid (((((Blk.new w _ _).alloc _).alloc _).below hb1 (by simp <;> omega)) : Blk w1 w.heap.size 28 #[.int .i64 n, .slice A L c])
    have KH1 := Lib.hid ((((Blk.new' (n := w.heap.size + 1) _ (by simp)).alloc _).below hb1 (by simp)) : Blk w1 (w.heap.size + 1) 28 #[.int .i64 m, .slice B M d])
    have HZ1 := Lib.hid (((Blk.new' (n := w.heap.size + 2) _ (by simp)).below hb1 (by simp)) : Blk w1 (w.heap.size + 2) 28 #[.int .i64 0, .slice none 0 0])
    have Hb1 : Hid (Below w.heap.size w w1) := by show Below _ _ _; exact Below.trans (b := (((w.alloc (.cells #[.int .i64 n, .slice A L c] 28)).alloc (.cells #[.int .i64 m, .slice B M d] 28)).alloc (.cells #[.int .i64 0, .slice none 0 0] 28))) (by (repeat' (first | (with_reducible exact Below.refl _ _) | (with_reducible assumption) | (with_reducible refine Below.alloc ?_ ?_ _) | (with_reducible refine Below.drew ?_) | (with_reducible refine below_drewN ?_ _) | (with_reducible refine Below.setCell ?_ ?_ _) | (with_reducible refine Below.trans ?_ (Below.mono (by assumption) ?_)) | (first | omega | (simp only [World.size_alloc, World.size_setCell, World.size_drew]; omega) | (simp; omega) | (simp; done))))) (hb1.mono (by simp <;> omega))
    have k0 := KG1.out.cellAt 0 _ rfl
    have k1 := KG1.out.cellAt 1 _ rfl
    have k2 := KH1.out.cellAt 0 _ rfl
    have k3 := KH1.out.cellAt 1 _ rfl
    have z9 := HZ1.out.lt
    clear hb1
    go_wp2_with fail
    refine (c2.out w1 Hb1.out).mono ?_
    rintro e w2 ⟨rfl, hb2⟩
    have hbb2 := hb2
    have KG2 := Lib.hid (KG1.out.below hbb2 (by have := HZ1.out.lt; omega))
    have KH2 := Lib.hid (KH1.out.below hbb2 (by have := HZ1.out.lt; omega))
    have HZ2 := Lib.hid (HZ1.out.below hbb2 HZ1.out.lt)
    have Hb2 : Hid (Below w.heap.size w w2) := Hb1.out.trans (hbb2.mono (by have := HZ1.out.lt; omega))
    clear k0 k1 k2 k3 z9 hb2 hbb2 KG1 KH1 HZ1 Hb1
    have k0 := KG2.out.cellAt 0 _ rfl
    have k1 := KG2.out.cellAt 1 _ rfl
    have k2 := KH2.out.cellAt 0 _ rfl
    have k3 := KH2.out.cellAt 1 _ rfl
    have z9 := HZ2.out.lt
    go_wp2_with fail
    refine (c3.out (w2.alloc (.cells #[.int .i64 v] 2)) (some ⟨w2.heap.size, 0, none⟩) (Hb2.out.alloc (by omega) _) (blkI_rd (t := 2) (xs := [v]) (Blk.new' _ rfl))).mono ?_
    rintro e w3 ⟨rfl, hb3⟩
    have hbb3 : Below w2.heap.size w2 w3 := (Below.alloc (Below.refl _ _) (Nat.le_refl _) _).trans (hb3.mono (by simp))
    have KG3 := Lib.hid (KG2.out.below hbb3 (by have := HZ2.out.lt; omega))
    have KH3 := Lib.hid (KH2.out.below hbb3 (by have := HZ2.out.lt; omega))
    have HZ3 := Lib.hid (HZ2.out.below hbb3 HZ2.out.lt)
    have Hb3 : Hid (Below w.heap.size w w3) := Hb2.out.trans (hbb3.mono (by have := HZ2.out.lt; omega))
    clear k0 k1 k2 k3 z9 hb3 hbb3 KG2 KH2 HZ2 Hb2
    have k0 := KG3.out.cellAt 0 _ rfl
    have k1 := KG3.out.cellAt 1 _ rfl
    have k2 := KH3.out.cellAt 0 _ rfl
    have k3 := KH3.out.cellAt 1 _ rfl
    have z9 := HZ3.out.lt
    go_wp2_with fail
    refine (c4.out (w3.alloc (.cells #[.int .i64 x] 2)) (some ⟨w3.heap.size, 0, none⟩) (Hb3.out.alloc (by omega) _) (blkI_rd (t := 2) (xs := [x]) (Blk.new' _ rfl))).mono ?_
    rintro e w4 ⟨rfl, hb4⟩
    have hbb4 : Below w3.heap.size w3 w4 := (Below.alloc (Below.refl _ _) (Nat.le_refl _) _).trans (hb4.mono (by simp))
    have KG4 := Lib.hid (KG3.out.below hbb4 (by have := HZ3.out.lt; omega))
    have KH4 := Lib.hid (KH3.out.below hbb4 (by have := HZ3.out.lt; omega))
    have HZ4 := Lib.hid (HZ3.out.below hbb4 HZ3.out.lt)
    have Hb4 : Hid (Below w.heap.size w w4) := Hb3.out.trans (hbb4.mono (by have := HZ3.out.lt; omega))
    clear k0 k1 k2 k3 z9 hb4 hbb4 KG3 KH3 HZ3 Hb3
    have k0 := KG4.out.cellAt 0 _ rfl
    have k1 := KG4.out.cellAt 1 _ rfl
    have k2 := KH4.out.cellAt 0 _ rfl
    have k3 := KH4.out.cellAt 1 _ rfl
    have z9 := HZ4.out.lt
    have x0 := HZ4.out.cellAt 0 _ rfl
    have x1 : (w4.setCell ⟨w.heap.size + 2, 0, none⟩ (.int .i64 0)).cell? ⟨w.heap.size + 2, 1, none⟩ = some (.slice none 0 0) := (sc_other (by simp)).trans (HZ4.out.cellAt 1 _ rfl)
    have f0 := HZ4.out.frozen 0
    have f1 := HZ4.out.frozen 1
    go_wp2
    refine ret_cell_tmp Try.results6 Try.underlying28 rfl (by kernel_rfl) rfl ((HZ4.out.set_ 0 (.int .i64 0)).set_ 1 (.slice none 0 0)) rfl rfl ⟨⟨none, 0, rfl, FrE.nil⟩, (Hb4.out.setCell (by show w.heap.size ≤ w.heap.size + 2; omega) _).setCell (by show w.heap.size ≤ w.heap.size + 2; omega) _⟩
  · rw [show gcode true true = 0 from rfl] at c3
    rw [show gcode true true = 0 from rfl] at c4
    have c3 := Lib.hid c3
    have c4 := Lib.hid c4
    have g1 : (n == 2) = false := by simpa using hn
    have g2 : (m == 2) = true := by simpa using hm
    clear hn hm hl hl2
    go_enter Try.func6, Try.ntmps6
    go_wp2_with fail
    refine (c1.out (((w.alloc (.cells #[.int .i64 n, .slice A L c] 28)).alloc (.cells #[.int .i64 m, .slice B M d] 28)).alloc (.cells #[.int .i64 0, .slice none 0 0] 28)) (by (repeat' (first | (with_reducible exact Below.refl _ _) | (with_reducible assumption) | (with_reducible refine Below.alloc ?_ ?_ _) | (with_reducible refine Below.drew ?_) | (with_reducible refine below_drewN ?_ _) | (with_reducible refine Below.setCell ?_ ?_ _) | (with_reducible refine Below.trans ?_ (Below.mono (by assumption) ?_)) | (first | omega | (simp only [World.size_alloc, World.size_setCell, World.size_drew]; omega) | (simp; omega) | (simp; done)))))).mono ?_
    rintro e w1 ⟨rfl, hb1⟩
    have KG1 := Lib.hid (((((Blk.new w _ _).alloc _).alloc _).below hb1 (by simp <;> omega)) : Blk w1 w.heap.size 28 #[.int .i64 n, .slice A L c])
    have KH1 := Lib.hid ((((Blk.new' (n := w.heap.size + 1) _ (by simp)).alloc _).below hb1 (by simp)) : Blk w1 (w.heap.size + 1) 28 #[.int .i64 m, .slice B M d])
    have HZ1 := Lib.hid (((Blk.new' (n := w.heap.size + 2) _ (by simp)).below hb1 (by simp)) : Blk w1 (w.heap.size + 2) 28 #[.int .i64 0, .slice none 0 0])
    have Hb1 : Hid (Below w.heap.size w w1) := by show Below _ _ _; exact Below.trans (b := (((w.alloc (.cells #[.int .i64 n, .slice A L c] 28)).alloc (.cells #[.int .i64 m, .slice B M d] 28)).alloc (.cells #[.int .i64 0, .slice none 0 0] 28))) (by (repeat' (first | (with_reducible exact Below.refl _ _) | (with_reducible assumption) | (with_reducible refine Below.alloc ?_ ?_ _) | (with_reducible refine Below.drew ?_) | (with_reducible refine below_drewN ?_ _) | (with_reducible refine Below.setCell ?_ ?_ _) | (with_reducible refine Below.trans ?_ (Below.mono (by assumption) ?_)) | (first | omega | (simp only [World.size_alloc, World.size_setCell, World.size_drew]; omega) | (simp; omega) | (simp; done))))) (hb1.mono (by simp <;> omega))
    have k0 := KG1.out.cellAt 0 _ rfl
    have k1 := KG1.out.cellAt 1 _ rfl
    have k2 := KH1.out.cellAt 0 _ rfl
    have k3 := KH1.out.cellAt 1 _ rfl
    have z9 := HZ1.out.lt
    clear hb1
    go_wp2_with fail
    refine (c2.out w1 Hb1.out).mono ?_
    rintro e w2 ⟨rfl, hb2⟩
    have hbb2 := hb2
    have KG2 := Lib.hid (KG1.out.below hbb2 (by have := HZ1.out.lt; omega))
    have KH2 := Lib.hid (KH1.out.below hbb2 (by have := HZ1.out.lt; omega))
    have HZ2 := Lib.hid (HZ1.out.below hbb2 HZ1.out.lt)
    have Hb2 : Hid (Below w.heap.size w w2) := Hb1.out.trans (hbb2.mono (by have := HZ1.out.lt; omega))
    clear k0 k1 k2 k3 z9 hb2 hbb2 KG1 KH1 HZ1 Hb1
    have k0 := KG2.out.cellAt 0 _ rfl
    have k1 := KG2.out.cellAt 1 _ rfl
    have k2 := KH2.out.cellAt 0 _ rfl
    have k3 := KH2.out.cellAt 1 _ rfl
    have z9 := HZ2.out.lt
    go_wp2_with fail
    refine (c3.out (w2.alloc (.cells #[.int .i64 v] 2)) (some ⟨w2.heap.size, 0, none⟩) (Hb2.out.alloc (by omega) _) (blkI_rd (t := 2) (xs := [v]) (Blk.new' _ rfl))).mono ?_
    rintro e w3 ⟨rfl, hb3⟩
    have hbb3 : Below w2.heap.size w2 w3 := (Below.alloc (Below.refl _ _) (Nat.le_refl _) _).trans (hb3.mono (by simp))
    have KG3 := Lib.hid (KG2.out.below hbb3 (by have := HZ2.out.lt; omega))
    have KH3 := Lib.hid (KH2.out.below hbb3 (by have := HZ2.out.lt; omega))
    have HZ3 := Lib.hid (HZ2.out.below hbb3 HZ2.out.lt)
    have Hb3 : Hid (Below w.heap.size w w3) := Hb2.out.trans (hbb3.mono (by have := HZ2.out.lt; omega))
    clear k0 k1 k2 k3 z9 hb3 hbb3 KG2 KH2 HZ2 Hb2
    have k0 := KG3.out.cellAt 0 _ rfl
    have k1 := KG3.out.cellAt 1 _ rfl
    have k2 := KH3.out.cellAt 0 _ rfl
    have k3 := KH3.out.cellAt 1 _ rfl
    have z9 := HZ3.out.lt
    go_wp2_with fail
    refine (c4.out (w3.alloc (.cells #[.int .i64 x] 2)) (some ⟨w3.heap.size, 0, none⟩) (Hb3.out.alloc (by omega) _) (blkI_rd (t := 2) (xs := [x]) (Blk.new' _ rfl))).mono ?_
    rintro e w4 ⟨rfl, hb4⟩
    have hbb4 : Below w3.heap.size w3 w4 := (Below.alloc (Below.refl _ _) (Nat.le_refl _) _).trans (hb4.mono (by simp))
    have KG4 := Lib.hid (KG3.out.below hbb4 (by have := HZ3.out.lt; omega))
    have KH4 := Lib.hid (KH3.out.below hbb4 (by have := HZ3.out.lt; omega))
    have HZ4 := Lib.hid (HZ3.out.below hbb4 HZ3.out.lt)
    have Hb4 : Hid (Below w.heap.size w w4) := Hb3.out.trans (hbb4.mono (by have := HZ3.out.lt; omega))
    clear k0 k1 k2 k3 z9 hb4 hbb4 KG3 KH3 HZ3 Hb3
    have k0 := KG4.out.cellAt 0 _ rfl
    have k1 := KG4.out.cellAt 1 _ rfl
    have k2 := KH4.out.cellAt 0 _ rfl
    have k3 := KH4.out.cellAt 1 _ rfl
    have z9 := HZ4.out.lt
    have x0 := HZ4.out.cellAt 0 _ rfl
    have x1 : (w4.setCell ⟨w.heap.size + 2, 0, none⟩ (.int .i64 0)).cell? ⟨w.heap.size + 2, 1, none⟩ = some (.slice none 0 0) := (sc_other (by simp)).trans (HZ4.out.cellAt 1 _ rfl)
    have f0 := HZ4.out.frozen 0
    have f1 := HZ4.out.frozen 1
    go_wp2
    refine ret_cell_tmp Try.results6 Try.underlying28 rfl (by kernel_rfl) rfl ((HZ4.out.set_ 0 (.int .i64 0)).set_ 1 (.slice none 0 0)) rfl rfl ⟨⟨none, 0, rfl, FrE.nil⟩, (Hb4.out.setCell (by show w.heap.size ≤ w.heap.size + 2; omega) _).setCell (by show w.heap.size ≤ w.heap.size + 2; omega) _⟩
  · rw [show gcode true true = 0 from rfl] at c3
    rw [show gcode true true = 0 from rfl] at c4
    have c3 := Lib.hid c3
    have c4 := Lib.hid c4
    have g1 : (n == 2) = false := by simpa using hn
    have g2 : (m == 2) = false := by simpa using hm
    have p1 : wrap64 (n + m) = n + m := wrap64_small (by omega) (by omega)
    have p2 : wrap64 (n + m - 2) = n + m - 2 := wrap64_small (by omega) (by omega)
    have g3 : decide (n + m - 2 > 20) = true := by simpa using hnm
    clear hn hm hnm hb hl hl2
    go_enter Try.func6, Try.ntmps6
    go_wp2_with fail
    refine (c1.out (((w.alloc (.cells #[.int .i64 n, .slice A L c] 28)).alloc (.cells #[.int .i64 m, .slice B M d] 28)).alloc (.cells #[.int .i64 0, .slice none 0 0] 28)) (by (repeat' (first | (with_reducible exact Below.refl _ _) | (with_reducible assumption) | (with_reducible refine Below.alloc ?_ ?_ _) | (with_reducible refine Below.drew ?_) | (with_reducible refine below_drewN ?_ _) | (with_reducible refine Below.setCell ?_ ?_ _) | (with_reducible refine Below.trans ?_ (Below.mono (by assumption) ?_)) | (first | omega | (simp only [World.size_alloc, World.size_setCell, World.size_drew]; omega) | (simp; omega) | (simp; done)))))).mono ?_
    rintro e w1 ⟨rfl, hb1⟩
    have KG1 := Lib.hid (((((Blk.new w _ _).alloc _).alloc _).below hb1 (by simp <;> omega)) : Blk w1 w.heap.size 28 #[.int .i64 n, .slice A L c])
    have KH1 := Lib.hid ((((Blk.new' (n := w.heap.size + 1) _ (by simp)).alloc _).below hb1 (by simp)) : Blk w1 (w.heap.size + 1) 28 #[.int .i64 m, .slice B M d])
    have HZ1 := Lib.hid (((Blk.new' (n := w.heap.size + 2) _ (by simp)).below hb1 (by simp)) : Blk w1 (w.heap.size + 2) 28 #[.int .i64 0, .slice none 0 0])
    have Hb1 : Hid (Below w.heap.size w w1) := by show Below _ _ _; exact Below.trans (b := (((w.alloc (.cells #[.int .i64 n, .slice A L c] 28)).alloc (.cells #[.int .i64 m, .slice B M d] 28)).alloc (.cells #[.int .i64 0, .slice none 0 0] 28))) (by (repeat' (first | (with_reducible exact Below.refl _ _) | (with_reducible assumption) | (with_reducible refine Below.alloc ?_ ?_ _) | (with_reducible refine Below.drew ?_) | (with_reducible refine below_drewN ?_ _) | (with_reducible refine Below.setCell ?_ ?_ _) | (with_reducible refine Below.trans ?_ (Below.mono (by assumption) ?_)) | (first | omega | (simp only [World.size_alloc, World.size_setCell, World.size_drew]; omega) | (simp; omega) | (simp; done))))) (hb1.mono (by simp <;> omega))
    have k0 := KG1.out.cellAt 0 _ rfl
    have k1 := KG1.out.cellAt 1 _ rfl
    have k2 := KH1.out.cellAt 0 _ rfl
    have k3 := KH1.out.cellAt 1 _ rfl
    have z9 := HZ1.out.lt
    clear hb1
    go_wp2_with fail
    refine (c2.out w1 Hb1.out).mono ?_
    rintro e w2 ⟨rfl, hb2⟩
    have hbb2 := hb2
    have KG2 := Lib.hid (KG1.out.below hbb2 (by have := HZ1.out.lt; omega))
    have KH2 := Lib.hid (KH1.out.below hbb2 (by have := HZ1.out.lt; omega))
    have HZ2 := Lib.hid (HZ1.out.below hbb2 HZ1.out.lt)
    have Hb2 : Hid (Below w.heap.size w w2) := Hb1.out.trans (hbb2.mono (by have := HZ1.out.lt; omega))
    clear k0 k1 k2 k3 z9 hb2 hbb2 KG1 KH1 HZ1 Hb1
    have k0 := KG2.out.cellAt 0 _ rfl
    have k1 := KG2.out.cellAt 1 _ rfl
    have k2 := KH2.out.cellAt 0 _ rfl
    have k3 := KH2.out.cellAt 1 _ rfl
    have z9 := HZ2.out.lt
    go_wp2_with fail
    refine (c3.out (w2.alloc (.cells #[.int .i64 v] 2)) (some ⟨w2.heap.size, 0, none⟩) (Hb2.out.alloc (by omega) _) (blkI_rd (t := 2) (xs := [v]) (Blk.new' _ rfl))).mono ?_
    rintro e w3 ⟨rfl, hb3⟩
    have hbb3 : Below w2.heap.size w2 w3 := (Below.alloc (Below.refl _ _) (Nat.le_refl _) _).trans (hb3.mono (by simp))
    have KG3 := Lib.hid (KG2.out.below hbb3 (by have := HZ2.out.lt; omega))
    have KH3 := Lib.hid (KH2.out.below hbb3 (by have := HZ2.out.lt; omega))
    have HZ3 := Lib.hid (HZ2.out.below hbb3 HZ2.out.lt)
    have Hb3 : Hid (Below w.heap.size w w3) := Hb2.out.trans (hbb3.mono (by have := HZ2.out.lt; omega))
    clear k0 k1 k2 k3 z9 hb3 hbb3 KG2 KH2 HZ2 Hb2
    have k0 := KG3.out.cellAt 0 _ rfl
    have k1 := KG3.out.cellAt 1 _ rfl
    have k2 := KH3.out.cellAt 0 _ rfl
    have k3 := KH3.out.cellAt 1 _ rfl
    have z9 := HZ3.out.lt
    go_wp2_with fail
    refine (c4.out (w3.alloc (.cells #[.int .i64 x] 2)) (some ⟨w3.heap.size, 0, none⟩) (Hb3.out.alloc (by omega) _) (blkI_rd (t := 2) (xs := [x]) (Blk.new' _ rfl))).mono ?_
    rintro e w4 ⟨rfl, hb4⟩
    have hbb4 : Below w3.heap.size w3 w4 := (Below.alloc (Below.refl _ _) (Nat.le_refl _) _).trans (hb4.mono (by simp))
    have KG4 := Lib.hid (KG3.out.below hbb4 (by have := HZ3.out.lt; omega))
    have KH4 := Lib.hid (KH3.out.below hbb4 (by have := HZ3.out.lt; omega))
    have HZ4 := Lib.hid (HZ3.out.below hbb4 HZ3.out.lt)
    have Hb4 : Hid (Below w.heap.size w w4) := Hb3.out.trans (hbb4.mono (by have := HZ3.out.lt; omega))
    clear k0 k1 k2 k3 z9 hb4 hbb4 KG3 KH3 HZ3 Hb3
    have k0 := KG4.out.cellAt 0 _ rfl
    have k1 := KG4.out.cellAt 1 _ rfl
    have k2 := KH4.out.cellAt 0 _ rfl
    have k3 := KH4.out.cellAt 1 _ rfl
    have z9 := HZ4.out.lt
    have x0 := HZ4.out.cellAt 0 _ rfl
    have x1 : (w4.setCell ⟨w.heap.size + 2, 0, none⟩ (.int .i64 0)).cell? ⟨w.heap.size + 2, 1, none⟩ = some (.slice none 0 0) := (sc_other (by simp)).trans (HZ4.out.cellAt 1 _ rfl)
    have f0 := HZ4.out.frozen 0
    have f1 := HZ4.out.frozen 1
    go_wp2
    refine ret_cell_tmp Try.results6 Try.underlying28 rfl (by kernel_rfl) rfl ((HZ4.out.set_ 0 (.int .i64 0)).set_ 1 (.slice none 0 0)) rfl rfl ⟨⟨none, 0, rfl, FrE.nil⟩, (Hb4.out.setCell (by show w.heap.size ≤ w.heap.size + 2; omega) _).setCell (by show w.heap.size ≤ w.heap.size + 2; omega) _⟩
end Go.Proofs.Ytjgmoffkecnmcaa
