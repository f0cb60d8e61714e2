/- The reference's DotProduct: the errors. No statement of the program is proved here. -/
import Derived.Test.YtjgmoffkecnmcaaGreatDp2
import Derived.Test.YtjgmoffkecnmcaaGreatNe5
import Derived.Test.YtjgmoffkecnmcaaGreatPr1
import Derived.Test.YtjgmoffkecnmcaaGreatWo5
import Derived.Test.YtjgmoffkecnmcaaGreatBr2
namespace Go.Proofs.YtjgmoffkecnmcaaGreat
open Go.RowKit
set_option linter.unusedSimpArgs false
set_option linter.unusedVariables false
set_option maxRecDepth 20000

set_option maxHeartbeats 8000000 in
/-- The codes of the graphs and the numbers. -/
theorem specDot_code (n : Int) (A : Option Addr) (c : Nat) (es : List (Int × Int)) (e f m : Int) (B : Option Addr) (d : Nat) (hs : List (Int × Int)) (a b : Int) (w : World) (hl : es.length ≤ 1048576) (hl2 : hs.length ≤ 1048576) (hr : RdE w A es) (hr2 : RdE w B hs) (q1 q2 q3 q4 : Bool) (h1 : Hid (isGraphB n es = q1)) (h2 : Hid (isGraphB m hs = q2)) (h3 : Hid ([e, f].all (fun v => inB v 0 ((es.length : Int) - 1)) = q3)) (h4 : Hid ([a, b].all (fun v => inB v 0 (m - 1)) = q4)) (r : Int)
    (h : (q1 = false ∧ r = 1) ∨ (q1 = true ∧ q2 = false ∧ r = 1) ∨ (q1 = true ∧ q2 = true ∧ q3 = false ∧ r = 2) ∨ (q1 = true ∧ q2 = true ∧ q3 = true ∧ q4 = false ∧ r = 2)) :
    Calls Tryz.prog 12 #[.agg #[.int .i64 n, .slice A es.length c], .int .i64 e, .int .i64 f, .agg #[.int .i64 m, .slice B hs.length d], .int .i64 a, .int .i64 b] w fun e' w' => RetG w' w.heap.size e' 0 [] r ∧ Below w.heap.size w w' := by
  have C1 := Lib.hid fun W (hW : Below w.heap.size w W) => l01Is_b n A c es W q1 h1 hl (hr.below hW)
  have C2 := Lib.hid fun W (hW : Below w.heap.size w W) => l01Is_b m B d hs W q2 h2 hl2 (hr2.below hW)
  have c3 := fun W G (hW : Below w.heap.size w W) (hG : RdI W G [e, f]) => l06Edges_b n A c es G 2 [e, f] W q1 q3 h1 h3 hl (by simp) (hr.below hW) hG
  have c4 := fun W G (hW : Below w.heap.size w W) (hG : RdI W G [a, b]) => l06Vertices_b m B d hs G 2 [a, b] W q2 q4 h2 h4 hl2 (by simp) (hr2.below hW) hG
  clear hr hr2 h1 h2 h3 h4
  generalize es.length = L at *
  generalize hs.length = M at *
  rcases h with ⟨rfl, rfl⟩ | ⟨rfl, rfl, rfl⟩ | ⟨rfl, rfl, rfl, rfl⟩ | ⟨rfl, rfl, rfl, rfl, rfl⟩
  · clear c3 c4 hl hl2
    go_enter Tryz.func12, Tryz.ntmps12
    go_wp2_with fail
    refine (C1.out (((w.alloc (.cells #[.int .i64 n, .slice A L c] 28)).alloc (.cells #[.int .i64 m, .slice B M d] 28)).alloc (.cells #[.int .i64 0, .slice none 0 0] 28)) (by (repeat' (first | (with_reducible exact Below.refl _ _) | (with_reducible assumption) | (with_reducible refine Below.alloc ?_ ?_ _) | (with_reducible refine Below.drew ?_) | (with_reducible refine below_drewN ?_ _) | (with_reducible refine Below.setCell ?_ ?_ _) | (with_reducible refine Below.trans ?_ (Below.mono (by assumption) ?_)) | (first | omega | (simp only [World.size_alloc, World.size_setCell, World.size_drew]; omega) | (simp; omega) | (simp; done)))))).mono ?_
    rintro e9 w1 ⟨rfl, hb1⟩
    have KG1 := Lib.hid (((((Blk.new w _ _).alloc _).alloc _).below hb1 (by simp <;> omega)) : Blk w1 w.heap.size 28 #[.int .i64 n, .slice A L c])
    have KH1 := Lib.hid ((((Blk.new' (n := w.heap.size + 1) _ (by simp)).alloc _).below hb1 (by simp)) : Blk w1 (w.heap.size + 1) 28 #[.int .i64 m, .slice B M d])
    have HZ1 := Lib.hid (((Blk.new' (n := w.heap.size + 2) _ (by simp)).below hb1 (by simp)) : Blk w1 (w.heap.size + 2) 28 #[.int .i64 0, .slice none 0 0])
    have Hb1 : Hid (Below w.heap.size w w1) := by show Below _ _ _; exact Below.trans (b := (((w.alloc (.cells #[.int .i64 n, .slice A L c] 28)).alloc (.cells #[.int .i64 m, .slice B M d] 28)).alloc (.cells #[.int .i64 0, .slice none 0 0] 28))) (by (repeat' (first | (with_reducible exact Below.refl _ _) | (with_reducible assumption) | (with_reducible refine Below.alloc ?_ ?_ _) | (with_reducible refine Below.drew ?_) | (with_reducible refine below_drewN ?_ _) | (with_reducible refine Below.setCell ?_ ?_ _) | (with_reducible refine Below.trans ?_ (Below.mono (by assumption) ?_)) | (first | omega | (simp only [World.size_alloc, World.size_setCell, World.size_drew]; omega) | (simp; omega) | (simp; done))))) (hb1.mono (by simp <;> omega))
    have k0 := KG1.out.cellAt 0 _ rfl
    have k1 := KG1.out.cellAt 1 _ rfl
    have k2 := KH1.out.cellAt 0 _ rfl
    have k3 := KH1.out.cellAt 1 _ rfl
    have z9 := HZ1.out.lt
    clear hb1
    have x0' := HZ1.out.cellAt 0 _ rfl
    have x1' : (w1.setCell ⟨w.heap.size + 2, 0, none⟩ (.int .i64 0)).cell? ⟨w.heap.size + 2, 1, none⟩ = some (.slice none 0 0) := (sc_other (by simp)).trans (HZ1.out.cellAt 1 _ rfl)
    have f0 := HZ1.out.frozen 0
    have f1 := HZ1.out.frozen 1
    go_wp2
    refine ret_cell_tmp Tryz.results12 Tryz.underlying28 rfl (by kernel_rfl) rfl ((HZ1.out.set_ 0 (.int .i64 0)).set_ 1 (.slice none 0 0)) rfl rfl ⟨⟨none, 0, rfl, FrE.nil⟩, (Hb1.out.setCell (by show w.heap.size ≤ w.heap.size + 2; omega) _).setCell (by show w.heap.size ≤ w.heap.size + 2; omega) _⟩
  · clear c3 c4 hl hl2
    go_enter Tryz.func12, Tryz.ntmps12
    go_wp2_with fail
    refine (C1.out (((w.alloc (.cells #[.int .i64 n, .slice A L c] 28)).alloc (.cells #[.int .i64 m, .slice B M d] 28)).alloc (.cells #[.int .i64 0, .slice none 0 0] 28)) (by (repeat' (first | (with_reducible exact Below.refl _ _) | (with_reducible assumption) | (with_reducible refine Below.alloc ?_ ?_ _) | (with_reducible refine Below.drew ?_) | (with_reducible refine below_drewN ?_ _) | (with_reducible refine Below.setCell ?_ ?_ _) | (with_reducible refine Below.trans ?_ (Below.mono (by assumption) ?_)) | (first | omega | (simp only [World.size_alloc, World.size_setCell, World.size_drew]; omega) | (simp; omega) | (simp; done)))))).mono ?_
    rintro e9 w1 ⟨rfl, hb1⟩
    have KG1 := Lib.hid (((((Blk.new w _ _).alloc _).alloc _).below hb1 (by simp <;> omega)) : Blk w1 w.heap.size 28 #[.int .i64 n, .slice A L c])
    have KH1 := Lib.hid ((((Blk.new' (n := w.heap.size + 1) _ (by simp)).alloc _).below hb1 (by simp)) : Blk w1 (w.heap.size + 1) 28 #[.int .i64 m, .slice B M d])
    have HZ1 := Lib.hid (((Blk.new' (n := w.heap.size + 2) _ (by simp)).below hb1 (by simp)) : Blk w1 (w.heap.size + 2) 28 #[.int .i64 0, .slice none 0 0])
    have Hb1 : Hid (Below w.heap.size w w1) := by show Below _ _ _; exact Below.trans (b := (((w.alloc (.cells #[.int .i64 n, .slice A L c] 28)).alloc (.cells #[.int .i64 m, .slice B M d] 28)).alloc (.cells #[.int .i64 0, .slice none 0 0] 28))) (by (repeat' (first | (with_reducible exact Below.refl _ _) | (with_reducible assumption) | (with_reducible refine Below.alloc ?_ ?_ _) | (with_reducible refine Below.drew ?_) | (with_reducible refine below_drewN ?_ _) | (with_reducible refine Below.setCell ?_ ?_ _) | (with_reducible refine Below.trans ?_ (Below.mono (by assumption) ?_)) | (first | omega | (simp only [World.size_alloc, World.size_setCell, World.size_drew]; omega) | (simp; omega) | (simp; done))))) (hb1.mono (by simp <;> omega))
    have k0 := KG1.out.cellAt 0 _ rfl
    have k1 := KG1.out.cellAt 1 _ rfl
    have k2 := KH1.out.cellAt 0 _ rfl
    have k3 := KH1.out.cellAt 1 _ rfl
    have z9 := HZ1.out.lt
    clear hb1
    go_wp2_with fail
    refine (C2.out w1 Hb1.out).mono ?_
    rintro e9 w2 ⟨rfl, hb2⟩
    have hbb2 := hb2
    have KG2 := Lib.hid (KG1.out.below hbb2 (by have := HZ1.out.lt; omega))
    have KH2 := Lib.hid (KH1.out.below hbb2 (by have := HZ1.out.lt; omega))
    have HZ2 := Lib.hid (HZ1.out.below hbb2 HZ1.out.lt)
    have Hb2 : Hid (Below w.heap.size w w2) := Hb1.out.trans (hbb2.mono (by have := HZ1.out.lt; omega))
    clear k0 k1 k2 k3 z9 hb2 hbb2 KG1 KH1 HZ1 Hb1
    have k0 := KG2.out.cellAt 0 _ rfl
    have k1 := KG2.out.cellAt 1 _ rfl
    have k2 := KH2.out.cellAt 0 _ rfl
    have k3 := KH2.out.cellAt 1 _ rfl
    have z9 := HZ2.out.lt
    have x0' := HZ2.out.cellAt 0 _ rfl
    have x1' : (w2.setCell ⟨w.heap.size + 2, 0, none⟩ (.int .i64 0)).cell? ⟨w.heap.size + 2, 1, none⟩ = some (.slice none 0 0) := (sc_other (by simp)).trans (HZ2.out.cellAt 1 _ rfl)
    have f0 := HZ2.out.frozen 0
    have f1 := HZ2.out.frozen 1
    go_wp2
    refine ret_cell_tmp Tryz.results12 Tryz.underlying28 rfl (by kernel_rfl) rfl ((HZ2.out.set_ 0 (.int .i64 0)).set_ 1 (.slice none 0 0)) rfl rfl ⟨⟨none, 0, rfl, FrE.nil⟩, (Hb2.out.setCell (by show w.heap.size ≤ w.heap.size + 2; omega) _).setCell (by show w.heap.size ≤ w.heap.size + 2; omega) _⟩
  · rw [show gcode true false = 2 from rfl] at c3
    have C3 := Lib.hid c3
    clear c3 c4 hl hl2
    go_enter Tryz.func12, Tryz.ntmps12
    go_wp2_with fail
    refine (C1.out (((w.alloc (.cells #[.int .i64 n, .slice A L c] 28)).alloc (.cells #[.int .i64 m, .slice B M d] 28)).alloc (.cells #[.int .i64 0, .slice none 0 0] 28)) (by (repeat' (first | (with_reducible exact Below.refl _ _) | (with_reducible assumption) | (with_reducible refine Below.alloc ?_ ?_ _) | (with_reducible refine Below.drew ?_) | (with_reducible refine below_drewN ?_ _) | (with_reducible refine Below.setCell ?_ ?_ _) | (with_reducible refine Below.trans ?_ (Below.mono (by assumption) ?_)) | (first | omega | (simp only [World.size_alloc, World.size_setCell, World.size_drew]; omega) | (simp; omega) | (simp; done)))))).mono ?_
    rintro e9 w1 ⟨rfl, hb1⟩
    have KG1 := Lib.hid (((((Blk.new w _ _).alloc _).alloc _).below hb1 (by simp <;> omega)) : Blk w1 w.heap.size 28 #[.int .i64 n, .slice A L c])
    have KH1 := Lib.hid ((((Blk.new' (n := w.heap.size + 1) _ (by simp)).alloc _).below hb1 (by simp)) : Blk w1 (w.heap.size + 1) 28 #[.int .i64 m, .slice B M d])
    have HZ1 := Lib.hid (((Blk.new' (n := w.heap.size + 2) _ (by simp)).below hb1 (by simp)) : Blk w1 (w.heap.size + 2) 28 #[.int .i64 0, .slice none 0 0])
    have Hb1 : Hid (Below w.heap.size w w1) := by show Below _ _ _; exact Below.trans (b := (((w.alloc (.cells #[.int .i64 n, .slice A L c] 28)).alloc (.cells #[.int .i64 m, .slice B M d] 28)).alloc (.cells #[.int .i64 0, .slice none 0 0] 28))) (by (repeat' (first | (with_reducible exact Below.refl _ _) | (with_reducible assumption) | (with_reducible refine Below.alloc ?_ ?_ _) | (with_reducible refine Below.drew ?_) | (with_reducible refine below_drewN ?_ _) | (with_reducible refine Below.setCell ?_ ?_ _) | (with_reducible refine Below.trans ?_ (Below.mono (by assumption) ?_)) | (first | omega | (simp only [World.size_alloc, World.size_setCell, World.size_drew]; omega) | (simp; omega) | (simp; done))))) (hb1.mono (by simp <;> omega))
    have k0 := KG1.out.cellAt 0 _ rfl
    have k1 := KG1.out.cellAt 1 _ rfl
    have k2 := KH1.out.cellAt 0 _ rfl
    have k3 := KH1.out.cellAt 1 _ rfl
    have z9 := HZ1.out.lt
    clear hb1
    go_wp2_with fail
    refine (C2.out w1 Hb1.out).mono ?_
    rintro e9 w2 ⟨rfl, hb2⟩
    have hbb2 := hb2
    have KG2 := Lib.hid (KG1.out.below hbb2 (by have := HZ1.out.lt; omega))
    have KH2 := Lib.hid (KH1.out.below hbb2 (by have := HZ1.out.lt; omega))
    have HZ2 := Lib.hid (HZ1.out.below hbb2 HZ1.out.lt)
    have Hb2 : Hid (Below w.heap.size w w2) := Hb1.out.trans (hbb2.mono (by have := HZ1.out.lt; omega))
    clear k0 k1 k2 k3 z9 hb2 hbb2 KG1 KH1 HZ1 Hb1
    have k0 := KG2.out.cellAt 0 _ rfl
    have k1 := KG2.out.cellAt 1 _ rfl
    have k2 := KH2.out.cellAt 0 _ rfl
    have k3 := KH2.out.cellAt 1 _ rfl
    have z9 := HZ2.out.lt
    go_wp2_with fail
    refine (C3.out (w2.alloc (.cells #[.int .i64 e, .int .i64 f] 2)) (some ⟨w2.heap.size, 0, none⟩) (Hb2.out.alloc (by omega) _) (blkI_rd (t := 2) (xs := [e, f]) (Blk.new' _ rfl))).mono ?_
    rintro e9 w3 ⟨rfl, hb3⟩
    have hbb3 : Below w2.heap.size w2 w3 := (Below.alloc (Below.refl _ _) (Nat.le_refl _) _).trans (hb3.mono (by simp))
    have KG3 := Lib.hid (KG2.out.below hbb3 (by have := HZ2.out.lt; omega))
    have KH3 := Lib.hid (KH2.out.below hbb3 (by have := HZ2.out.lt; omega))
    have HZ3 := Lib.hid (HZ2.out.below hbb3 HZ2.out.lt)
    have Hb3 : Hid (Below w.heap.size w w3) := Hb2.out.trans (hbb3.mono (by have := HZ2.out.lt; omega))
    clear k0 k1 k2 k3 z9 hb3 hbb3 KG2 KH2 HZ2 Hb2
    have k0 := KG3.out.cellAt 0 _ rfl
    have k1 := KG3.out.cellAt 1 _ rfl
    have k2 := KH3.out.cellAt 0 _ rfl
    have k3 := KH3.out.cellAt 1 _ rfl
    have z9 := HZ3.out.lt
    have x0' := HZ3.out.cellAt 0 _ rfl
    have x1' : (w3.setCell ⟨w.heap.size + 2, 0, none⟩ (.int .i64 0)).cell? ⟨w.heap.size + 2, 1, none⟩ = some (.slice none 0 0) := (sc_other (by simp)).trans (HZ3.out.cellAt 1 _ rfl)
    have f0 := HZ3.out.frozen 0
    have f1 := HZ3.out.frozen 1
    go_wp2
    refine ret_cell_tmp Tryz.results12 Tryz.underlying28 rfl (by kernel_rfl) rfl ((HZ3.out.set_ 0 (.int .i64 0)).set_ 1 (.slice none 0 0)) rfl rfl ⟨⟨none, 0, rfl, FrE.nil⟩, (Hb3.out.setCell (by show w.heap.size ≤ w.heap.size + 2; omega) _).setCell (by show w.heap.size ≤ w.heap.size + 2; omega) _⟩
  · rw [show gcode true true = 0 from rfl] at c3
    rw [show gcode true false = 2 from rfl] at c4
    have C3 := Lib.hid c3
    have C4 := Lib.hid c4
    clear c3 c4 hl hl2
    go_enter Tryz.func12, Tryz.ntmps12
    go_wp2_with fail
    refine (C1.out (((w.alloc (.cells #[.int .i64 n, .slice A L c] 28)).alloc (.cells #[.int .i64 m, .slice B M d] 28)).alloc (.cells #[.int .i64 0, .slice none 0 0] 28)) (by (repeat' (first | (with_reducible exact Below.refl _ _) | (with_reducible assumption) | (with_reducible refine Below.alloc ?_ ?_ _) | (with_reducible refine Below.drew ?_) | (with_reducible refine below_drewN ?_ _) | (with_reducible refine Below.setCell ?_ ?_ _) | (with_reducible refine Below.trans ?_ (Below.mono (by assumption) ?_)) | (first | omega | (simp only [World.size_alloc, World.size_setCell, World.size_drew]; omega) | (simp; omega) | (simp; done)))))).mono ?_
    rintro e9 w1 ⟨rfl, hb1⟩
    have KG1 := Lib.hid (((((Blk.new w _ _).alloc _).alloc _).below hb1 (by simp <;> omega)) : Blk w1 w.heap.size 28 #[.int .i64 n, .slice A L c])
    have KH1 := Lib.hid ((((Blk.new' (n := w.heap.size + 1) _ (by simp)).alloc _).below hb1 (by simp)) : Blk w1 (w.heap.size + 1) 28 #[.int .i64 m, .slice B M d])
    have HZ1 := Lib.hid (((Blk.new' (n := w.heap.size + 2) _ (by simp)).below hb1 (by simp)) : Blk w1 (w.heap.size + 2) 28 #[.int .i64 0, .slice none 0 0])
    have Hb1 : Hid (Below w.heap.size w w1) := by show Below _ _ _; exact Below.trans (b := (((w.alloc (.cells #[.int .i64 n, .slice A L c] 28)).alloc (.cells #[.int .i64 m, .slice B M d] 28)).alloc (.cells #[.int .i64 0, .slice none 0 0] 28))) (by (repeat' (first | (with_reducible exact Below.refl _ _) | (with_reducible assumption) | (with_reducible refine Below.alloc ?_ ?_ _) | (with_reducible refine Below.drew ?_) | (with_reducible refine below_drewN ?_ _) | (with_reducible refine Below.setCell ?_ ?_ _) | (with_reducible refine Below.trans ?_ (Below.mono (by assumption) ?_)) | (first | omega | (simp only [World.size_alloc, World.size_setCell, World.size_drew]; omega) | (simp; omega) | (simp; done))))) (hb1.mono (by simp <;> omega))
    have k0 := KG1.out.cellAt 0 _ rfl
    have k1 := KG1.out.cellAt 1 _ rfl
    have k2 := KH1.out.cellAt 0 _ rfl
    have k3 := KH1.out.cellAt 1 _ rfl
    have z9 := HZ1.out.lt
    clear hb1
    go_wp2_with fail
    refine (C2.out w1 Hb1.out).mono ?_
    rintro e9 w2 ⟨rfl, hb2⟩
    have hbb2 := hb2
    have KG2 := Lib.hid (KG1.out.below hbb2 (by have := HZ1.out.lt; omega))
    have KH2 := Lib.hid (KH1.out.below hbb2 (by have := HZ1.out.lt; omega))
    have HZ2 := Lib.hid (HZ1.out.below hbb2 HZ1.out.lt)
    have Hb2 : Hid (Below w.heap.size w w2) := Hb1.out.trans (hbb2.mono (by have := HZ1.out.lt; omega))
    clear k0 k1 k2 k3 z9 hb2 hbb2 KG1 KH1 HZ1 Hb1
    have k0 := KG2.out.cellAt 0 _ rfl
    have k1 := KG2.out.cellAt 1 _ rfl
    have k2 := KH2.out.cellAt 0 _ rfl
    have k3 := KH2.out.cellAt 1 _ rfl
    have z9 := HZ2.out.lt
    go_wp2_with fail
    refine (C3.out (w2.alloc (.cells #[.int .i64 e, .int .i64 f] 2)) (some ⟨w2.heap.size, 0, none⟩) (Hb2.out.alloc (by omega) _) (blkI_rd (t := 2) (xs := [e, f]) (Blk.new' _ rfl))).mono ?_
    rintro e9 w3 ⟨rfl, hb3⟩
    have hbb3 : Below w2.heap.size w2 w3 := (Below.alloc (Below.refl _ _) (Nat.le_refl _) _).trans (hb3.mono (by simp))
    have KG3 := Lib.hid (KG2.out.below hbb3 (by have := HZ2.out.lt; omega))
    have KH3 := Lib.hid (KH2.out.below hbb3 (by have := HZ2.out.lt; omega))
    have HZ3 := Lib.hid (HZ2.out.below hbb3 HZ2.out.lt)
    have Hb3 : Hid (Below w.heap.size w w3) := Hb2.out.trans (hbb3.mono (by have := HZ2.out.lt; omega))
    clear k0 k1 k2 k3 z9 hb3 hbb3 KG2 KH2 HZ2 Hb2
    have k0 := KG3.out.cellAt 0 _ rfl
    have k1 := KG3.out.cellAt 1 _ rfl
    have k2 := KH3.out.cellAt 0 _ rfl
    have k3 := KH3.out.cellAt 1 _ rfl
    have z9 := HZ3.out.lt
    go_wp2_with fail
    refine (C4.out (w3.alloc (.cells #[.int .i64 a, .int .i64 b] 2)) (some ⟨w3.heap.size, 0, none⟩) (Hb3.out.alloc (by omega) _) (blkI_rd (t := 2) (xs := [a, b]) (Blk.new' _ rfl))).mono ?_
    rintro e9 w4 ⟨rfl, hb4⟩
    have hbb4 : Below w3.heap.size w3 w4 := (Below.alloc (Below.refl _ _) (Nat.le_refl _) _).trans (hb4.mono (by simp))
    have KG4 := Lib.hid (KG3.out.below hbb4 (by have := HZ3.out.lt; omega))
    have KH4 := Lib.hid (KH3.out.below hbb4 (by have := HZ3.out.lt; omega))
    have HZ4 := Lib.hid (HZ3.out.below hbb4 HZ3.out.lt)
    have Hb4 : Hid (Below w.heap.size w w4) := Hb3.out.trans (hbb4.mono (by have := HZ3.out.lt; omega))
    clear k0 k1 k2 k3 z9 hb4 hbb4 KG3 KH3 HZ3 Hb3
    have k0 := KG4.out.cellAt 0 _ rfl
    have k1 := KG4.out.cellAt 1 _ rfl
    have k2 := KH4.out.cellAt 0 _ rfl
    have k3 := KH4.out.cellAt 1 _ rfl
    have z9 := HZ4.out.lt
    have x0' := HZ4.out.cellAt 0 _ rfl
    have x1' : (w4.setCell ⟨w.heap.size + 2, 0, none⟩ (.int .i64 0)).cell? ⟨w.heap.size + 2, 1, none⟩ = some (.slice none 0 0) := (sc_other (by simp)).trans (HZ4.out.cellAt 1 _ rfl)
    have f0 := HZ4.out.frozen 0
    have f1 := HZ4.out.frozen 1
    go_wp2
    refine ret_cell_tmp Tryz.results12 Tryz.underlying28 rfl (by kernel_rfl) rfl ((HZ4.out.set_ 0 (.int .i64 0)).set_ 1 (.slice none 0 0)) rfl rfl ⟨⟨none, 0, rfl, FrE.nil⟩, (Hb4.out.setCell (by show w.heap.size ≤ w.heap.size + 2; omega) _).setCell (by show w.heap.size ≤ w.heap.size + 2; omega) _⟩

set_option maxHeartbeats 8000000 in
/-- The state and the limit. -/
theorem specDot_state (n : Int) (A : Option Addr) (c : Nat) (es : List (Int × Int)) (i j : Nat) (P : Nat) (B : Option Addr) (d : Nat) (hs : List (Int × Int)) (a b : Nat) (w : World) (hl : es.length ≤ 1000) (hl2 : hs.length ≤ 1000) (hr : RdE w A es) (hr2 : RdE w B hs) (h1 : Hid (isGraphB n es = true)) (h2 : Hid (isGraphB P hs = true)) (h3 : Hid ([(i : Int), (j : Int)].all (fun v => inB v 0 ((es.length : Int) - 1)) = true)) (h4 : Hid ([(a : Int), (b : Int)].all (fun v => inB v 0 ((P : Int) - 1)) = true)) (hi : i < es.length) (hj : j < es.length) (hn : 2 ≤ n ∧ n ≤ 20) (hP : 2 ≤ P ∧ P ≤ 20) (r : Int)
    (h : (i = j ∧ r = 5) ∨ (i ≠ j ∧ nearB (es.getD i (0, 0)) (es.getD j (0, 0)) = true ∧ r = 5) ∨ (i ≠ j ∧ nearB (es.getD i (0, 0)) (es.getD j (0, 0)) = false ∧ joinC hs a b hs.length ≠ 1 ∧ r = 5) ∨ (i ≠ j ∧ nearB (es.getD i (0, 0)) (es.getD j (0, 0)) = false ∧ joinC hs a b hs.length = 1 ∧ n + P - 2 > 20 ∧ r = 3)) :
    Calls Tryz.prog 12 #[.agg #[.int .i64 n, .slice A es.length c], .int .i64 (i : Int), .int .i64 (j : Int), .agg #[.int .i64 P, .slice B hs.length d], .int .i64 (a : Int), .int .i64 (b : Int)] w fun e' w' => RetG w' w.heap.size e' 0 [] r ∧ Below w.heap.size w w' := by
  have C1 := Lib.hid fun W (hW : Below w.heap.size w W) => l01Is_b n A c es W true h1 (by omega) (hr.below hW)
  have C2 := fun W (hW : Below w.heap.size w W) => l01Is_b P B d hs W true h2 (by omega) (hr2.below hW)
  have c3 := fun W G (hW : Below w.heap.size w W) (hG : RdI W G [(i : Int), (j : Int)]) => l06Edges_b n A c es G 2 [(i : Int), (j : Int)] W true true h1 h3 (by omega) (by simp) (hr.below hW) hG
  have c4 := fun W G (hW : Below w.heap.size w W) (hG : RdI W G [(a : Int), (b : Int)]) => l06Vertices_b P B d hs G 2 [(a : Int), (b : Int)] W true true h2 h4 (by omega) (by simp) (hr2.below hW) hG
  rw [show gcode true true = 0 from rfl] at c3 c4
  have C5 := fun W (hW : Below w.heap.size w W) => l06Joined_b P B d hs a b W (by omega) (hr2.below hW)
  obtain ⟨jc, Hjc⟩ : ∃ x, Hid (joinC hs a b hs.length = x) := ⟨_, rfl⟩
  obtain ⟨jf, Hjf⟩ : ∃ x, Hid (joinF hs a b hs.length = x) := ⟨_, rfl⟩
  rw [Hjc.out, Hjf.out] at C5
  obtain ⟨qn, Hqn⟩ : ∃ q, Hid (nearB (es.getD i (0, 0)) (es.getD j (0, 0)) = q) := ⟨_, rfl⟩
  have C6 := Lib.hid fun W (hW : Below w.heap.size w W) => l08Near_b n A c es i j W qn Hqn hi hj (by omega) (hr.below hW)
  have pp1 : wrap64 (n + P) = n + P := wrap64_small (by omega) (by omega)
  have pp2 : wrap64 (n + P - 2) = n + P - 2 := wrap64_small (by omega) (by omega)
  rw [Hqn.out, Hjc.out] at h
  obtain ⟨L, HL⟩ : ∃ L, Hid (es.length = L) := ⟨_, rfl⟩
  obtain ⟨M, HM⟩ : ∃ L, Hid (hs.length = L) := ⟨_, rfl⟩
  rw [HL.out] at C1 c3 C6 hi hj ⊢
  rw [HM.out] at C2 c4 C5 ⊢
  obtain ⟨m, Hm⟩ : ∃ m : Int, Hid ((P : Int) = m) := ⟨_, rfl⟩
  simp only [show (Value.int .i64 (P : Int)) = .int .i64 m by rw [Hm.out]] at C2 c4 C5 ⊢
  rw [Hm.out] at pp1 pp2 h
  have C2 := Lib.hid C2
  have C3 := Lib.hid c3
  have C4 := Lib.hid c4
  have C5 := Lib.hid C5
  clear c3 c4 hr hr2 h1 h2 h3 h4 Hqn Hjc Hjf hl hl2 hi hj hn hP
  go_enter Tryz.func12, Tryz.ntmps12
  go_wp2_with fail
  refine (C1.out (((w.alloc (.cells #[.int .i64 n, .slice A L c] 28)).alloc (.cells #[.int .i64 m, .slice B M d] 28)).alloc (.cells #[.int .i64 0, .slice none 0 0] 28)) (by (repeat' (first | (with_reducible exact Below.refl _ _) | (with_reducible assumption) | (with_reducible refine Below.alloc ?_ ?_ _) | (with_reducible refine Below.drew ?_) | (with_reducible refine below_drewN ?_ _) | (with_reducible refine Below.setCell ?_ ?_ _) | (with_reducible refine Below.trans ?_ (Below.mono (by assumption) ?_)) | (first | omega | (simp only [World.size_alloc, World.size_setCell, World.size_drew]; omega) | (simp; omega) | (simp; done)))))).mono ?_
  rintro e9 w1 ⟨rfl, hb1⟩
  have KG1 := Lib.hid (((((Blk.new w _ _).alloc _).alloc _).below hb1 (by simp <;> omega)) : Blk w1 w.heap.size 28 #[.int .i64 n, .slice A L c])
  have KH1 := Lib.hid ((((Blk.new' (n := w.heap.size + 1) _ (by simp)).alloc _).below hb1 (by simp)) : Blk w1 (w.heap.size + 1) 28 #[.int .i64 m, .slice B M d])
  have HZ1 := Lib.hid (((Blk.new' (n := w.heap.size + 2) _ (by simp)).below hb1 (by simp)) : Blk w1 (w.heap.size + 2) 28 #[.int .i64 0, .slice none 0 0])
  have Hb1 : Hid (Below w.heap.size w w1) := by show Below _ _ _; exact Below.trans (b := (((w.alloc (.cells #[.int .i64 n, .slice A L c] 28)).alloc (.cells #[.int .i64 m, .slice B M d] 28)).alloc (.cells #[.int .i64 0, .slice none 0 0] 28))) (by (repeat' (first | (with_reducible exact Below.refl _ _) | (with_reducible assumption) | (with_reducible refine Below.alloc ?_ ?_ _) | (with_reducible refine Below.drew ?_) | (with_reducible refine below_drewN ?_ _) | (with_reducible refine Below.setCell ?_ ?_ _) | (with_reducible refine Below.trans ?_ (Below.mono (by assumption) ?_)) | (first | omega | (simp only [World.size_alloc, World.size_setCell, World.size_drew]; omega) | (simp; omega) | (simp; done))))) (hb1.mono (by simp <;> omega))
  have k0 := KG1.out.cellAt 0 _ rfl
  have k1 := KG1.out.cellAt 1 _ rfl
  have k2 := KH1.out.cellAt 0 _ rfl
  have k3 := KH1.out.cellAt 1 _ rfl
  have z9 := HZ1.out.lt
  clear hb1
  go_wp2_with fail
  refine (C2.out w1 Hb1.out).mono ?_
  rintro e9 w2 ⟨rfl, hb2⟩
  have hbb2 := hb2
  have KG2 := Lib.hid (KG1.out.below hbb2 (by have := HZ1.out.lt; omega))
  have KH2 := Lib.hid (KH1.out.below hbb2 (by have := HZ1.out.lt; omega))
  have HZ2 := Lib.hid (HZ1.out.below hbb2 HZ1.out.lt)
  have Hb2 : Hid (Below w.heap.size w w2) := Hb1.out.trans (hbb2.mono (by have := HZ1.out.lt; omega))
  clear k0 k1 k2 k3 z9 hb2 hbb2 KG1 KH1 HZ1 Hb1
  have k0 := KG2.out.cellAt 0 _ rfl
  have k1 := KG2.out.cellAt 1 _ rfl
  have k2 := KH2.out.cellAt 0 _ rfl
  have k3 := KH2.out.cellAt 1 _ rfl
  have z9 := HZ2.out.lt
  go_wp2_with fail
  refine (C3.out (w2.alloc (.cells #[.int .i64 (i : Int), .int .i64 (j : Int)] 2)) (some ⟨w2.heap.size, 0, none⟩) (Hb2.out.alloc (by omega) _) (blkI_rd (t := 2) (xs := [(i : Int), (j : Int)]) (Blk.new' _ rfl))).mono ?_
  rintro e9 w3 ⟨rfl, hb3⟩
  have hbb3 : Below w2.heap.size w2 w3 := (Below.alloc (Below.refl _ _) (Nat.le_refl _) _).trans (hb3.mono (by simp))
  have KG3 := Lib.hid (KG2.out.below hbb3 (by have := HZ2.out.lt; omega))
  have KH3 := Lib.hid (KH2.out.below hbb3 (by have := HZ2.out.lt; omega))
  have HZ3 := Lib.hid (HZ2.out.below hbb3 HZ2.out.lt)
  have Hb3 : Hid (Below w.heap.size w w3) := Hb2.out.trans (hbb3.mono (by have := HZ2.out.lt; omega))
  clear k0 k1 k2 k3 z9 hb3 hbb3 KG2 KH2 HZ2 Hb2
  have k0 := KG3.out.cellAt 0 _ rfl
  have k1 := KG3.out.cellAt 1 _ rfl
  have k2 := KH3.out.cellAt 0 _ rfl
  have k3 := KH3.out.cellAt 1 _ rfl
  have z9 := HZ3.out.lt
  go_wp2_with fail
  refine (C4.out (w3.alloc (.cells #[.int .i64 (a : Int), .int .i64 (b : Int)] 2)) (some ⟨w3.heap.size, 0, none⟩) (Hb3.out.alloc (by omega) _) (blkI_rd (t := 2) (xs := [(a : Int), (b : Int)]) (Blk.new' _ rfl))).mono ?_
  rintro e9 w4 ⟨rfl, hb4⟩
  have hbb4 : Below w3.heap.size w3 w4 := (Below.alloc (Below.refl _ _) (Nat.le_refl _) _).trans (hb4.mono (by simp))
  have KG4 := Lib.hid (KG3.out.below hbb4 (by have := HZ3.out.lt; omega))
  have KH4 := Lib.hid (KH3.out.below hbb4 (by have := HZ3.out.lt; omega))
  have HZ4 := Lib.hid (HZ3.out.below hbb4 HZ3.out.lt)
  have Hb4 : Hid (Below w.heap.size w w4) := Hb3.out.trans (hbb4.mono (by have := HZ3.out.lt; omega))
  clear k0 k1 k2 k3 z9 hb4 hbb4 KG3 KH3 HZ3 Hb3
  have k0 := KG4.out.cellAt 0 _ rfl
  have k1 := KG4.out.cellAt 1 _ rfl
  have k2 := KH4.out.cellAt 0 _ rfl
  have k3 := KH4.out.cellAt 1 _ rfl
  have z9 := HZ4.out.lt
  go_wp2_with fail
  refine (C5.out w4 Hb4.out).mono ?_
  rintro e9 w5 ⟨rfl, hb5⟩
  have hbb5 := hb5
  have KG5 := Lib.hid (KG4.out.below hbb5 (by have := HZ4.out.lt; omega))
  have KH5 := Lib.hid (KH4.out.below hbb5 (by have := HZ4.out.lt; omega))
  have HZ5 := Lib.hid (HZ4.out.below hbb5 HZ4.out.lt)
  have Hb5 : Hid (Below w.heap.size w w5) := Hb4.out.trans (hbb5.mono (by have := HZ4.out.lt; omega))
  clear k0 k1 k2 k3 z9 hb5 hbb5 KG4 KH4 HZ4 Hb4
  have k0 := KG5.out.cellAt 0 _ rfl
  have k1 := KG5.out.cellAt 1 _ rfl
  have k2 := KH5.out.cellAt 0 _ rfl
  have k3 := KH5.out.cellAt 1 _ rfl
  have z9 := HZ5.out.lt
  rcases h with ⟨h1, rfl⟩ | ⟨h1, h2, rfl⟩ | ⟨h1, h2, h3, rfl⟩ | ⟨h1, h2, h3, h4, rfl⟩
  · have g1 : ((i : Int) == (j : Int)) = true := by simp; omega
    clear h1
    have x0' := HZ5.out.cellAt 0 _ rfl
    have x1' : (w5.setCell ⟨w.heap.size + 2, 0, none⟩ (.int .i64 0)).cell? ⟨w.heap.size + 2, 1, none⟩ = some (.slice none 0 0) := (sc_other (by simp)).trans (HZ5.out.cellAt 1 _ rfl)
    have f0 := HZ5.out.frozen 0
    have f1 := HZ5.out.frozen 1
    go_wp2
    refine ret_cell_tmp Tryz.results12 Tryz.underlying28 rfl (by kernel_rfl) rfl ((HZ5.out.set_ 0 (.int .i64 0)).set_ 1 (.slice none 0 0)) rfl rfl ⟨⟨none, 0, rfl, FrE.nil⟩, (Hb5.out.setCell (by show w.heap.size ≤ w.heap.size + 2; omega) _).setCell (by show w.heap.size ≤ w.heap.size + 2; omega) _⟩
  · have g1 : ((i : Int) == (j : Int)) = false := by simp; omega
    subst h2
    clear h1
    go_wp2_with fail
    refine (C6.out w5 Hb5.out).mono ?_
    rintro e9 w6 ⟨rfl, hb6⟩
    have hbb6 := hb6
    have KG6 := Lib.hid (KG5.out.below hbb6 (by have := HZ5.out.lt; omega))
    have KH6 := Lib.hid (KH5.out.below hbb6 (by have := HZ5.out.lt; omega))
    have HZ6 := Lib.hid (HZ5.out.below hbb6 HZ5.out.lt)
    have Hb6 : Hid (Below w.heap.size w w6) := Hb5.out.trans (hbb6.mono (by have := HZ5.out.lt; omega))
    clear k0 k1 k2 k3 z9 hb6 hbb6 KG5 KH5 HZ5 Hb5
    have k0 := KG6.out.cellAt 0 _ rfl
    have k1 := KG6.out.cellAt 1 _ rfl
    have k2 := KH6.out.cellAt 0 _ rfl
    have k3 := KH6.out.cellAt 1 _ rfl
    have z9 := HZ6.out.lt
    have x0' := HZ6.out.cellAt 0 _ rfl
    have x1' : (w6.setCell ⟨w.heap.size + 2, 0, none⟩ (.int .i64 0)).cell? ⟨w.heap.size + 2, 1, none⟩ = some (.slice none 0 0) := (sc_other (by simp)).trans (HZ6.out.cellAt 1 _ rfl)
    have f0 := HZ6.out.frozen 0
    have f1 := HZ6.out.frozen 1
    go_wp2
    refine ret_cell_tmp Tryz.results12 Tryz.underlying28 rfl (by kernel_rfl) rfl ((HZ6.out.set_ 0 (.int .i64 0)).set_ 1 (.slice none 0 0)) rfl rfl ⟨⟨none, 0, rfl, FrE.nil⟩, (Hb6.out.setCell (by show w.heap.size ≤ w.heap.size + 2; omega) _).setCell (by show w.heap.size ≤ w.heap.size + 2; omega) _⟩
  · have g1 : ((i : Int) == (j : Int)) = false := by simp; omega
    subst h2
    have g2 : (jc != 1) = true := by simpa using h3
    clear h1 h3
    go_wp2_with fail
    refine (C6.out w5 Hb5.out).mono ?_
    rintro e9 w6 ⟨rfl, hb6⟩
    have hbb6 := hb6
    have KG6 := Lib.hid (KG5.out.below hbb6 (by have := HZ5.out.lt; omega))
    have KH6 := Lib.hid (KH5.out.below hbb6 (by have := HZ5.out.lt; omega))
    have HZ6 := Lib.hid (HZ5.out.below hbb6 HZ5.out.lt)
    have Hb6 : Hid (Below w.heap.size w w6) := Hb5.out.trans (hbb6.mono (by have := HZ5.out.lt; omega))
    clear k0 k1 k2 k3 z9 hb6 hbb6 KG5 KH5 HZ5 Hb5
    have k0 := KG6.out.cellAt 0 _ rfl
    have k1 := KG6.out.cellAt 1 _ rfl
    have k2 := KH6.out.cellAt 0 _ rfl
    have k3 := KH6.out.cellAt 1 _ rfl
    have z9 := HZ6.out.lt
    have x0' := HZ6.out.cellAt 0 _ rfl
    have x1' : (w6.setCell ⟨w.heap.size + 2, 0, none⟩ (.int .i64 0)).cell? ⟨w.heap.size + 2, 1, none⟩ = some (.slice none 0 0) := (sc_other (by simp)).trans (HZ6.out.cellAt 1 _ rfl)
    have f0 := HZ6.out.frozen 0
    have f1 := HZ6.out.frozen 1
    go_wp2
    refine ret_cell_tmp Tryz.results12 Tryz.underlying28 rfl (by kernel_rfl) rfl ((HZ6.out.set_ 0 (.int .i64 0)).set_ 1 (.slice none 0 0)) rfl rfl ⟨⟨none, 0, rfl, FrE.nil⟩, (Hb6.out.setCell (by show w.heap.size ≤ w.heap.size + 2; omega) _).setCell (by show w.heap.size ≤ w.heap.size + 2; omega) _⟩
  · have g1 : ((i : Int) == (j : Int)) = false := by simp; omega
    subst h2
    have g2 : (jc != 1) = false := by simpa using h3
    have g3 : decide (n + m - 2 > 20) = true := by simp; omega
    clear h1 h3 h4
    go_wp2_with fail
    refine (C6.out w5 Hb5.out).mono ?_
    rintro e9 w6 ⟨rfl, hb6⟩
    have hbb6 := hb6
    have KG6 := Lib.hid (KG5.out.below hbb6 (by have := HZ5.out.lt; omega))
    have KH6 := Lib.hid (KH5.out.below hbb6 (by have := HZ5.out.lt; omega))
    have HZ6 := Lib.hid (HZ5.out.below hbb6 HZ5.out.lt)
    have Hb6 : Hid (Below w.heap.size w w6) := Hb5.out.trans (hbb6.mono (by have := HZ5.out.lt; omega))
    clear k0 k1 k2 k3 z9 hb6 hbb6 KG5 KH5 HZ5 Hb5
    have k0 := KG6.out.cellAt 0 _ rfl
    have k1 := KG6.out.cellAt 1 _ rfl
    have k2 := KH6.out.cellAt 0 _ rfl
    have k3 := KH6.out.cellAt 1 _ rfl
    have z9 := HZ6.out.lt
    have x0' := HZ6.out.cellAt 0 _ rfl
    have x1' : (w6.setCell ⟨w.heap.size + 2, 0, none⟩ (.int .i64 0)).cell? ⟨w.heap.size + 2, 1, none⟩ = some (.slice none 0 0) := (sc_other (by simp)).trans (HZ6.out.cellAt 1 _ rfl)
    have f0 := HZ6.out.frozen 0
    have f1 := HZ6.out.frozen 1
    go_wp2
    refine ret_cell_tmp Tryz.results12 Tryz.underlying28 rfl (by kernel_rfl) rfl ((HZ6.out.set_ 0 (.int .i64 0)).set_ 1 (.slice none 0 0)) rfl rfl ⟨⟨none, 0, rfl, FrE.nil⟩, (Hb6.out.setCell (by show w.heap.size ≤ w.heap.size + 2; omega) _).setCell (by show w.heap.size ≤ w.heap.size + 2; omega) _⟩
end Go.Proofs.YtjgmoffkecnmcaaGreat
