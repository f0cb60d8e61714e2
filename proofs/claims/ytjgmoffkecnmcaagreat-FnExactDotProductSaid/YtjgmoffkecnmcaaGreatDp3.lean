/- impl.DotProduct. No statement of the program is proved here. -/
import Derived.Test.YtjgmoffkecnmcaaGreatDp2
import Derived.Test.YtjgmoffkecnmcaaGreatBc
import Derived.Test.YtjgmoffkecnmcaaGreatBr2
import Derived.Test.YtjgmoffkecnmcaaGreatPr1
import Derived.Deep.CutBlock
import Derived.Deep.DeepCutAuto
namespace Go.Proofs.YtjgmoffkecnmcaaGreat
open Go.RowKit
set_option linter.unusedSimpArgs false
set_option linter.unusedVariables false
set_option maxRecDepth 20000

set_option maxHeartbeats 8000000 in
/-- The code of the graphs and the numbers. -/
theorem implDot_code (n : Int) (A : Option Addr) (c : Nat) (es : List (Int × Int)) (e f m : Int) (B : Option Addr) (d : Nat) (hs : List (Int × Int)) (a b : Int) (w : World) (hl : es.length ≤ 1048576) (hl2 : hs.length ≤ 1048576) (hr : RdE w A es) (hr2 : RdE w B hs) (q1 q2 qe qf qa qb : Bool) (h1 : Hid (isGraphB n es = q1)) (h2 : Hid (isGraphB m hs = q2)) (he : Hid (inB e 0 ((es.length : Int) - 1) = qe)) (hf : Hid (inB f 0 ((es.length : Int) - 1) = qf)) (ha : Hid (inB a 0 (wrap64 (m - 1)) = qa)) (hb : Hid (inB b 0 (wrap64 (m - 1)) = qb)) (r : Int) (hc : bcode q1 q2 (qe && (qf && (qa && qb))) = r) (hr0 : r ≠ 0) :
    Calls Tryz.prog 13 #[.agg #[.int .i64 n, .slice A es.length c], .int .i64 e, .int .i64 f, .agg #[.int .i64 m, .slice B hs.length d], .int .i64 a, .int .i64 b] w fun e' w' => RetG w' w.heap.size e' 0 [] r ∧ Below w.heap.size w w' := by
  have hmf : ∀ (fn : Fn) (first cap : Array Value) (w : World), (Instr.makeFunc fn first cap).run Tryz.prog w = .ok (.func fn first cap) w := fun _ _ _ _ => rfl
  have cb := fun W lb (hW : Below w.heap.size w W) hp => bothCode_b n A c es m B d hs 36 lb W q1 q2 (qe && (qf && (qa && qb))) ent_dot1 h1 h2 hl hl2 (hr.below hW) (hr2.below hW) hp
  have c1 := Lib.hid fun gg ge gf gh ga gb W k1 k2 k3 k4 k5 k6 => dot1_b gg ge gf gh ga gb n A es.length c e f m B hs.length d a b W hl qe qf qa qb he hf ha hb k1 k2 k3 k4 k5 k6
  rw [hc] at cb
  have cb := Lib.hid cb
  have g1 : (r != 0) = true := by simpa using hr0
  clear hr hr2 h1 h2 he hf ha hb hc hr0 hl hl2
  generalize es.length = L at *
  generalize hs.length = M at *
  go_enter Tryz.func13, Tryz.ntmps13
  go_wp2_with fail
  refine (cb.out (((((((w.alloc (.cells #[.int .i64 n, .slice A L c] 28)).alloc (.cells #[.int .i64 e] 2)).alloc (.cells #[.int .i64 f] 2)).alloc (.cells #[.int .i64 m, .slice B M d] 28)).alloc (.cells #[.int .i64 a] 2)).alloc (.cells #[.int .i64 b] 2)).alloc (.cells #[.int .i64 0, .slice none 0 0] 28)) _ (by (repeat' (first | (with_reducible exact Below.refl _ _) | (with_reducible assumption) | (with_reducible refine Below.alloc ?_ ?_ _) | (with_reducible refine Below.drew ?_) | (with_reducible refine below_drewN ?_ _) | (with_reducible refine Below.setCell ?_ ?_ _) | (with_reducible refine Below.trans ?_ (Below.mono (by assumption) ?_)) | (first | omega | (simp only [World.size_alloc, World.size_setCell, World.size_drew]; omega) | (simp; omega) | (simp; done))))) ?_).mono ?_
  · intro _ _ W hW
    exact c1.out (w.heap.size) (w.heap.size + 1) (w.heap.size + 1 + 1) (w.heap.size + 1 + 1 + 1) (w.heap.size + 1 + 1 + 1 + 1) (w.heap.size + 1 + 1 + 1 + 1 + 1) W ((((((((Blk.new w _ _).alloc _).alloc _).alloc _).alloc _).alloc _).alloc _).below hW (by simp <;> omega)) (((((((Blk.new' (n := w.heap.size + 1) _ (by simp)).alloc _).alloc _).alloc _).alloc _).alloc _).below hW (by simp <;> omega)) ((((((Blk.new' (n := w.heap.size + 1 + 1) _ (by simp)).alloc _).alloc _).alloc _).alloc _).below hW (by simp <;> omega)) (((((Blk.new' (n := w.heap.size + 1 + 1 + 1) _ (by simp)).alloc _).alloc _).alloc _).below hW (by simp <;> omega)) ((((Blk.new' (n := w.heap.size + 1 + 1 + 1 + 1) _ (by simp)).alloc _).alloc _).below hW (by simp <;> omega)) (((Blk.new' (n := w.heap.size + 1 + 1 + 1 + 1 + 1) _ (by simp)).alloc _).below hW (by simp <;> omega))
  rintro e9 w1 ⟨rfl, hb1⟩
  have HG1 := Lib.hid ((((((((Blk.new w _ _).alloc _).alloc _).alloc _).alloc _).alloc _).alloc _).below hb1 (by simp <;> omega) : Blk w1 (w.heap.size) 28 #[.int .i64 n, .slice A L c])
  have HE1 := Lib.hid (((((((Blk.new' (n := w.heap.size + 1) _ (by simp)).alloc _).alloc _).alloc _).alloc _).alloc _).below hb1 (by simp <;> omega) : Blk w1 (w.heap.size + 1) 2 #[.int .i64 e])
  have HF1 := Lib.hid ((((((Blk.new' (n := w.heap.size + 1 + 1) _ (by simp)).alloc _).alloc _).alloc _).alloc _).below hb1 (by simp <;> omega) : Blk w1 (w.heap.size + 1 + 1) 2 #[.int .i64 f])
  have HH1 := Lib.hid (((((Blk.new' (n := w.heap.size + 1 + 1 + 1) _ (by simp)).alloc _).alloc _).alloc _).below hb1 (by simp <;> omega) : Blk w1 (w.heap.size + 1 + 1 + 1) 28 #[.int .i64 m, .slice B M d])
  have HP1 := Lib.hid ((((Blk.new' (n := w.heap.size + 1 + 1 + 1 + 1) _ (by simp)).alloc _).alloc _).below hb1 (by simp <;> omega) : Blk w1 (w.heap.size + 1 + 1 + 1 + 1) 2 #[.int .i64 a])
  have HQ1 := Lib.hid (((Blk.new' (n := w.heap.size + 1 + 1 + 1 + 1 + 1) _ (by simp)).alloc _).below hb1 (by simp <;> omega) : Blk w1 (w.heap.size + 1 + 1 + 1 + 1 + 1) 2 #[.int .i64 b])
  have HZ1 := Lib.hid ((Blk.new' (n := w.heap.size + 1 + 1 + 1 + 1 + 1 + 1) _ (by simp)).below hb1 (by simp <;> omega) : Blk w1 (w.heap.size + 1 + 1 + 1 + 1 + 1 + 1) 28 #[.int .i64 0, .slice none 0 0])
  have Hb1 : Hid (Below w.heap.size w w1) := by show Below _ _ _; exact Below.trans (b := (((((((w.alloc (.cells #[.int .i64 n, .slice A L c] 28)).alloc (.cells #[.int .i64 e] 2)).alloc (.cells #[.int .i64 f] 2)).alloc (.cells #[.int .i64 m, .slice B M d] 28)).alloc (.cells #[.int .i64 a] 2)).alloc (.cells #[.int .i64 b] 2)).alloc (.cells #[.int .i64 0, .slice none 0 0] 28))) (by (repeat' (first | (with_reducible exact Below.refl _ _) | (with_reducible assumption) | (with_reducible refine Below.alloc ?_ ?_ _) | (with_reducible refine Below.drew ?_) | (with_reducible refine below_drewN ?_ _) | (with_reducible refine Below.setCell ?_ ?_ _) | (with_reducible refine Below.trans ?_ (Below.mono (by assumption) ?_)) | (first | omega | (simp only [World.size_alloc, World.size_setCell, World.size_drew]; omega) | (simp; omega) | (simp; done))))) (hb1.mono (by simp <;> omega))
  clear hb1
  have x0' := HZ1.out.cellAt 0 _ rfl
  have x1' : (w1.setCell ⟨w.heap.size + 1 + 1 + 1 + 1 + 1 + 1, 0, none⟩ (.int .i64 0)).cell? ⟨w.heap.size + 1 + 1 + 1 + 1 + 1 + 1, 1, none⟩ = some (.slice none 0 0) := (sc_other (by simp)).trans (HZ1.out.cellAt 1 _ rfl)
  have f0 := HZ1.out.frozen 0
  have f1 := HZ1.out.frozen 1
  go_wp2
  refine ret_cell_tmp Tryz.results13 Tryz.underlying28 rfl (by kernel_rfl) rfl ((HZ1.out.set_ 0 (.int .i64 0)).set_ 1 (.slice none 0 0)) rfl rfl ⟨⟨none, 0, rfl, FrE.nil⟩, (Hb1.out.setCell (by show w.heap.size ≤ w.heap.size + 1 + 1 + 1 + 1 + 1 + 1; omega) _).setCell (by show w.heap.size ≤ w.heap.size + 1 + 1 + 1 + 1 + 1 + 1; omega) _⟩

set_option maxHeartbeats 16000000 in
/-- The edges are near, or more than one edge joins the vertices. -/
theorem implDot_state (n : Int) (A : Option Addr) (c : Nat) (es : List (Int × Int)) (i j : Nat) (m : Int) (B : Option Addr) (d : Nat) (hs : List (Int × Int)) (a b : Nat) (x0 x1 y0 y1 : Int) (w : World) (N : Nat) (hl : es.length ≤ 1000) (hl2 : hs.length ≤ 1000) (hr : RdE w A es) (hr2 : RdE w B hs) (hN : N ≤ 60) (hin : InN N hs) (hab : a < 60 ∧ b < 60) (hi : i < es.length) (hj : j < es.length) (hx : es.getD i (0, 0) = (x0, x1)) (hy : es.getD j (0, 0) = (y0, y1)) (h1 : Hid (isGraphB n es = true)) (h2 : Hid (isGraphB m hs = true)) (he : Hid (inB (i : Int) 0 ((es.length : Int) - 1) = true)) (hf : Hid (inB (j : Int) 0 ((es.length : Int) - 1) = true)) (ha : Hid (inB (a : Int) 0 (wrap64 (m - 1)) = true)) (hb : Hid (inB (b : Int) 0 (wrap64 (m - 1)) = true)) (h : nearB (x0, x1) (y0, y1) = true ∨ joinN hs a b ≠ 1) :
    Calls Tryz.prog 13 #[.agg #[.int .i64 n, .slice A es.length c], .int .i64 (i : Int), .int .i64 (j : Int), .agg #[.int .i64 m, .slice B hs.length d], .int .i64 (a : Int), .int .i64 (b : Int)] w fun e' w' => RetG w' w.heap.size e' 0 [] 5 ∧ Below w.heap.size w w' := by
  have hmf : ∀ (fn : Fn) (first cap : Array Value) (w : World), (Instr.makeFunc fn first cap).run Tryz.prog w = .ok (.func fn first cap) w := fun _ _ _ _ => rfl
  obtain ⟨bA, oA, rfl, hbA, hcA⟩ := hr.pos (by omega)
  have hcE := hcA i hi
  have hcF := hcA j hj
  have cb := fun W lb (hW : Below w.heap.size w W) hp => bothCode_b n (some ⟨bA, oA, none⟩) c es m B d hs 36 lb W true true true ent_dot1 h1 h2 (by omega) (by omega) (hr.below hW) (hr2.below hW) hp
  rw [show bcode true true true = 0 from rfl] at cb
  have cb := Lib.hid cb
  have c1 := Lib.hid fun gg ge gf gh ga gb W k1 k2 k3 k4 k5 k6 => dot1_b gg ge gf gh ga gb n (some ⟨bA, oA, none⟩) es.length c (i : Int) (j : Int) m B hs.length d (a : Int) (b : Int) W (by omega) true true true true he hf ha hb k1 k2 k3 k4 k5 k6
  have CJ := Lib.hid fun W (hW : Below w.heap.size w W) => joins_b m B d hs N a b W (by omega) (by omega) hin (by omega) (hr2.below hW)
  obtain ⟨jj, Hjj⟩ : ∃ x : Nat, Hid (joinN hs a b = x) := ⟨_, rfl⟩
  rw [Hjj.out] at h CJ
  obtain ⟨q1, Hq1⟩ : ∃ q, Hid (onB (x0, x1) y0 = q) := ⟨_, rfl⟩
  obtain ⟨q2, Hq2⟩ : ∃ q, Hid (onB (x0, x1) y1 = q) := ⟨_, rfl⟩
  have c2 := Lib.hid fun W => isOn_b x0 x1 y0 W q1 Hq1
  have c3 := Lib.hid fun W => isOn_b x0 x1 y1 W q2 Hq2
  have Hh : Hid ((q1 || q2) = true ∨ jj ≠ 1) := by show _ ∨ _; rw [← Hq1.out, ← Hq2.out]; exact h
  obtain ⟨L, HL⟩ : ∃ L, Hid (es.length = L) := ⟨_, rfl⟩
  obtain ⟨M, HM⟩ : ∃ L, Hid (hs.length = L) := ⟨_, rfl⟩
  rw [HL.out] at cb c1 hi hj hl ⊢
  rw [HM.out] at cb c1 CJ ⊢
  obtain ⟨ei, ei2, ei3⟩ := idxF i L hi
  obtain ⟨ej, ej2, ej3⟩ := idxF j L hj
  clear hr hr2 h1 h2 he hf ha hb hin hN hab hcA h Hjj hl hl2
  go_enter Tryz.func13, Tryz.ntmps13
  go_wp2_with fail
  refine (cb.out (((((((w.alloc (.cells #[.int .i64 n, .slice (some ⟨bA, oA, none⟩) L c] 28)).alloc (.cells #[.int .i64 (i : Int)] 2)).alloc (.cells #[.int .i64 (j : Int)] 2)).alloc (.cells #[.int .i64 m, .slice B M d] 28)).alloc (.cells #[.int .i64 (a : Int)] 2)).alloc (.cells #[.int .i64 (b : Int)] 2)).alloc (.cells #[.int .i64 0, .slice none 0 0] 28)) _ (by (repeat' (first | (with_reducible exact Below.refl _ _) | (with_reducible assumption) | (with_reducible refine Below.alloc ?_ ?_ _) | (with_reducible refine Below.drew ?_) | (with_reducible refine below_drewN ?_ _) | (with_reducible refine Below.setCell ?_ ?_ _) | (with_reducible refine Below.trans ?_ (Below.mono (by assumption) ?_)) | (first | omega | (simp only [World.size_alloc, World.size_setCell, World.size_drew]; omega) | (simp; omega) | (simp; done))))) ?_).mono ?_
  · intro _ _ W hW
    exact c1.out (w.heap.size) (w.heap.size + 1) (w.heap.size + 1 + 1) (w.heap.size + 1 + 1 + 1) (w.heap.size + 1 + 1 + 1 + 1) (w.heap.size + 1 + 1 + 1 + 1 + 1) W ((((((((Blk.new w _ _).alloc _).alloc _).alloc _).alloc _).alloc _).alloc _).below hW (by simp <;> omega)) (((((((Blk.new' (n := w.heap.size + 1) _ (by simp)).alloc _).alloc _).alloc _).alloc _).alloc _).below hW (by simp <;> omega)) ((((((Blk.new' (n := w.heap.size + 1 + 1) _ (by simp)).alloc _).alloc _).alloc _).alloc _).below hW (by simp <;> omega)) (((((Blk.new' (n := w.heap.size + 1 + 1 + 1) _ (by simp)).alloc _).alloc _).alloc _).below hW (by simp <;> omega)) ((((Blk.new' (n := w.heap.size + 1 + 1 + 1 + 1) _ (by simp)).alloc _).alloc _).below hW (by simp <;> omega)) (((Blk.new' (n := w.heap.size + 1 + 1 + 1 + 1 + 1) _ (by simp)).alloc _).below hW (by simp <;> omega))
  rintro e9 w1 ⟨rfl, hb1⟩
  have HG1 := Lib.hid ((((((((Blk.new w _ _).alloc _).alloc _).alloc _).alloc _).alloc _).alloc _).below hb1 (by simp <;> omega) : Blk w1 (w.heap.size) 28 #[.int .i64 n, .slice (some ⟨bA, oA, none⟩) L c])
  have HE1 := Lib.hid (((((((Blk.new' (n := w.heap.size + 1) _ (by simp)).alloc _).alloc _).alloc _).alloc _).alloc _).below hb1 (by simp <;> omega) : Blk w1 (w.heap.size + 1) 2 #[.int .i64 (i : Int)])
  have HF1 := Lib.hid ((((((Blk.new' (n := w.heap.size + 1 + 1) _ (by simp)).alloc _).alloc _).alloc _).alloc _).below hb1 (by simp <;> omega) : Blk w1 (w.heap.size + 1 + 1) 2 #[.int .i64 (j : Int)])
  have HH1 := Lib.hid (((((Blk.new' (n := w.heap.size + 1 + 1 + 1) _ (by simp)).alloc _).alloc _).alloc _).below hb1 (by simp <;> omega) : Blk w1 (w.heap.size + 1 + 1 + 1) 28 #[.int .i64 m, .slice B M d])
  have HP1 := Lib.hid ((((Blk.new' (n := w.heap.size + 1 + 1 + 1 + 1) _ (by simp)).alloc _).alloc _).below hb1 (by simp <;> omega) : Blk w1 (w.heap.size + 1 + 1 + 1 + 1) 2 #[.int .i64 (a : Int)])
  have HQ1 := Lib.hid (((Blk.new' (n := w.heap.size + 1 + 1 + 1 + 1 + 1) _ (by simp)).alloc _).below hb1 (by simp <;> omega) : Blk w1 (w.heap.size + 1 + 1 + 1 + 1 + 1) 2 #[.int .i64 (b : Int)])
  have HZ1 := Lib.hid ((Blk.new' (n := w.heap.size + 1 + 1 + 1 + 1 + 1 + 1) _ (by simp)).below hb1 (by simp <;> omega) : Blk w1 (w.heap.size + 1 + 1 + 1 + 1 + 1 + 1) 28 #[.int .i64 0, .slice none 0 0])
  have Hb1 : Hid (Below w.heap.size w w1) := by show Below _ _ _; exact Below.trans (b := (((((((w.alloc (.cells #[.int .i64 n, .slice (some ⟨bA, oA, none⟩) L c] 28)).alloc (.cells #[.int .i64 (i : Int)] 2)).alloc (.cells #[.int .i64 (j : Int)] 2)).alloc (.cells #[.int .i64 m, .slice B M d] 28)).alloc (.cells #[.int .i64 (a : Int)] 2)).alloc (.cells #[.int .i64 (b : Int)] 2)).alloc (.cells #[.int .i64 0, .slice none 0 0] 28))) (by (repeat' (first | (with_reducible exact Below.refl _ _) | (with_reducible assumption) | (with_reducible refine Below.alloc ?_ ?_ _) | (with_reducible refine Below.drew ?_) | (with_reducible refine below_drewN ?_ _) | (with_reducible refine Below.setCell ?_ ?_ _) | (with_reducible refine Below.trans ?_ (Below.mono (by assumption) ?_)) | (first | omega | (simp only [World.size_alloc, World.size_setCell, World.size_drew]; omega) | (simp; omega) | (simp; done))))) (hb1.mono (by simp <;> omega))
  clear hb1
  have k0 := HG1.out.cellAt 1 _ rfl
  have k1 := HE1.out.cellAt 0 _ rfl
  have k2 := HF1.out.cellAt 0 _ rfl
  have e0 := ((bcell Hb1.out).1 bA (oA + i * 2) hbA).trans hcE.1
  have e1 := ((bcell Hb1.out).1 bA (oA + i * 2 + 1) hbA).trans hcE.2
  have e2 := ((bcell Hb1.out).1 bA (oA + j * 2) hbA).trans hcF.1
  have e3 := ((bcell Hb1.out).1 bA (oA + j * 2 + 1) hbA).trans hcF.2
  rw [hx] at e0 e1
  rw [hy] at e2 e3
  dsimp only at e0 e1 e2 e3
  have z1 := HZ1.out.lt
  have n0 : bA < w1.heap.size := by have := Hb1.out.size; omega
  have n1 : bA ≠ w1.heap.size := by omega
  have n2 : bA ≠ w1.heap.size + 1 := by omega
  have n3 : bA < w1.heap.size + 1 := by omega
  have n4 : bA < w1.heap.size + 1 + 1 := by omega
  have s0a : w.heap.size < w1.heap.size := by omega
  have s0b : w.heap.size ≠ w1.heap.size := by omega
  have s0c : w.heap.size ≠ w1.heap.size + 1 := by omega
  have s0d : w.heap.size < w1.heap.size + 1 := by omega
  have s0e : w.heap.size < w1.heap.size + 1 + 1 := by omega
  have s1a : w.heap.size + 1 < w1.heap.size := by omega
  have s1b : w.heap.size + 1 ≠ w1.heap.size := by omega
  have s1c : w.heap.size + 1 ≠ w1.heap.size + 1 := by omega
  have s1d : w.heap.size + 1 < w1.heap.size + 1 := by omega
  have s1e : w.heap.size + 1 < w1.heap.size + 1 + 1 := by omega
  have s2a : w.heap.size + 1 + 1 < w1.heap.size := by omega
  have s2b : w.heap.size + 1 + 1 ≠ w1.heap.size := by omega
  have s2c : w.heap.size + 1 + 1 ≠ w1.heap.size + 1 := by omega
  have s2d : w.heap.size + 1 + 1 < w1.heap.size + 1 := by omega
  have s2e : w.heap.size + 1 + 1 < w1.heap.size + 1 + 1 := by omega
  go_wp2_with fail
  go_cut [15, 16] (fun p q wx => ∃ g1 g2, p = .pointer (some ⟨g1, 0, none⟩) ∧ q = .pointer (some ⟨g2, 0, none⟩) ∧ Hid (Blk wx g1 40 #[.int .i64 x0, .int .i64 x1]) ∧ Hid (Blk wx g2 40 #[.int .i64 y0, .int .i64 y1]) ∧ Hid (Below w1.heap.size w1 wx))
  case first =>
    go_region
    all_goals
      go_wp2_with fail
      go_meet
      refine ⟨_, _, rfl, rfl, ?_, ?_, by show Below _ _ _; (repeat' (first | (with_reducible exact Below.refl _ _) | (with_reducible assumption) | (with_reducible refine Below.alloc ?_ ?_ _) | (with_reducible refine Below.drew ?_) | (with_reducible refine below_drewN ?_ _) | (with_reducible refine Below.setCell ?_ ?_ _) | (with_reducible refine Below.trans ?_ (Below.mono (by assumption) ?_)) | (first | omega | (simp only [World.size_alloc, World.size_setCell, World.size_drew]; omega) | (simp; omega) | (simp; done))))⟩
      · show Blk _ _ _ _; first | (refine Blk.alloc ?_ _; exact Blk.new' _ (by simp)) | exact Blk.new' _ (by simp)
      · show Blk _ _ _ _; first | exact Blk.new' _ (by simp) | (refine Blk.alloc ?_ _; exact Blk.new' _ (by simp))
  case rest =>
    obtain ⟨g1, g2, rfl, rfl, HO, HT, Hc⟩ := hcut
    obtain ⟨w2, hw2⟩ : ∃ u, u = wc := ⟨_, rfl⟩
    subst hw2
    clear k0 k1 k2 e0 e1 e2 e3 z1 n0 n1 n2 n3 n4 s0a s0b s0c s0d s0e s1a s1b s1c s1d s1e s2a s2b s2c s2d s2e
    have hc2 := Hc.out
    have zz2 := HZ1.out.lt
    have HG2 := Lib.hid (HG1.out.below hc2 (by omega))
    have HE2 := Lib.hid (HE1.out.below hc2 (by omega))
    have HF2 := Lib.hid (HF1.out.below hc2 (by omega))
    have HH2 := Lib.hid (HH1.out.below hc2 (by omega))
    have HP2 := Lib.hid (HP1.out.below hc2 (by omega))
    have HQ2 := Lib.hid (HQ1.out.below hc2 (by omega))
    have HZ2 := Lib.hid (HZ1.out.below hc2 (by omega))
    have Hb2 : Hid (Below w.heap.size w w2) := Hb1.out.trans (hc2.mono (by omega))
    clear zz2 HG1 HE1 HF1 HH1 HP1 HQ1 HZ1 Hb1
    clear hc2 Hc
    have o0 := HO.out.cellAt 0 _ rfl
    have o1 := HO.out.cellAt 1 _ rfl
    have t0 := HT.out.cellAt 0 _ rfl
    go_wp2_with fail
    refine (c2.out w2).mono ?_
    rintro e9 w3 ⟨rfl, hb3⟩
    clear o0 o1 t0
    have HO3 := Lib.hid (HO.out.below hb3 HO.out.lt)
    have HT3 := Lib.hid (HT.out.below hb3 HT.out.lt)
    have zz3 := HZ2.out.lt
    have HG3 := Lib.hid (HG2.out.below hb3 (by omega))
    have HE3 := Lib.hid (HE2.out.below hb3 (by omega))
    have HF3 := Lib.hid (HF2.out.below hb3 (by omega))
    have HH3 := Lib.hid (HH2.out.below hb3 (by omega))
    have HP3 := Lib.hid (HP2.out.below hb3 (by omega))
    have HQ3 := Lib.hid (HQ2.out.below hb3 (by omega))
    have HZ3 := Lib.hid (HZ2.out.below hb3 (by omega))
    have Hb3 : Hid (Below w.heap.size w w3) := Hb2.out.trans (hb3.mono (by omega))
    clear zz3 HG2 HE2 HF2 HH2 HP2 HQ2 HZ2 Hb2
    clear hb3 HO HT
    cases q1
    · have o0 := HO3.out.cellAt 0 _ rfl
      have o1 := HO3.out.cellAt 1 _ rfl
      have t0 := HT3.out.cellAt 1 _ rfl
      go_wp2_with fail
      refine (c3.out w3).mono ?_
      rintro e9 w4 ⟨rfl, hb4⟩
      clear o0 o1 t0
      have HO4 := Lib.hid (HO3.out.below hb4 HO3.out.lt)
      have HT4 := Lib.hid (HT3.out.below hb4 HT3.out.lt)
      have zz4 := HZ3.out.lt
      have HG4 := Lib.hid (HG3.out.below hb4 (by omega))
      have HE4 := Lib.hid (HE3.out.below hb4 (by omega))
      have HF4 := Lib.hid (HF3.out.below hb4 (by omega))
      have HH4 := Lib.hid (HH3.out.below hb4 (by omega))
      have HP4 := Lib.hid (HP3.out.below hb4 (by omega))
      have HQ4 := Lib.hid (HQ3.out.below hb4 (by omega))
      have HZ4 := Lib.hid (HZ3.out.below hb4 (by omega))
      have Hb4 : Hid (Below w.heap.size w w4) := Hb3.out.trans (hb4.mono (by omega))
      clear zz4 HG3 HE3 HF3 HH3 HP3 HQ3 HZ3 Hb3
      clear hb4 HO3 HT3
      cases q2
      · have g2 : ((jj : Int) != 1) = true := by have := Hh.out; simp at this ⊢; omega
        have h0 := HH4.out.cellAt 0 _ rfl
        have h1' := HH4.out.cellAt 1 _ rfl
        have h2' := HP4.out.cellAt 0 _ rfl
        have h3' := HQ4.out.cellAt 0 _ rfl
        go_wp2_with fail
        refine (CJ.out w4 Hb4.out).mono ?_
        rintro e9 w5 ⟨rfl, hb5⟩
        clear h0 h1' h2' h3'
        have HO5 := Lib.hid (HO4.out.below hb5 HO4.out.lt)
        have HT5 := Lib.hid (HT4.out.below hb5 HT4.out.lt)
        have zz5 := HZ4.out.lt
        have HG5 := Lib.hid (HG4.out.below hb5 (by omega))
        have HE5 := Lib.hid (HE4.out.below hb5 (by omega))
        have HF5 := Lib.hid (HF4.out.below hb5 (by omega))
        have HH5 := Lib.hid (HH4.out.below hb5 (by omega))
        have HP5 := Lib.hid (HP4.out.below hb5 (by omega))
        have HQ5 := Lib.hid (HQ4.out.below hb5 (by omega))
        have HZ5 := Lib.hid (HZ4.out.below hb5 (by omega))
        have Hb5 : Hid (Below w.heap.size w w5) := Hb4.out.trans (hb5.mono (by omega))
        clear zz5 HG4 HE4 HF4 HH4 HP4 HQ4 HZ4 Hb4
        clear hb5 HO4 HT4
        have x0' := HZ5.out.cellAt 0 _ rfl
        have x1' : (w5.setCell ⟨w.heap.size + 1 + 1 + 1 + 1 + 1 + 1, 0, none⟩ (.int .i64 0)).cell? ⟨w.heap.size + 1 + 1 + 1 + 1 + 1 + 1, 1, none⟩ = some (.slice none 0 0) := (sc_other (by simp)).trans (HZ5.out.cellAt 1 _ rfl)
        have f0 := HZ5.out.frozen 0
        have f1 := HZ5.out.frozen 1
        go_wp2
        refine ret_cell_tmp Tryz.results13 Tryz.underlying28 rfl (by kernel_rfl) rfl ((HZ5.out.set_ 0 (.int .i64 0)).set_ 1 (.slice none 0 0)) rfl rfl ⟨⟨none, 0, rfl, FrE.nil⟩, (Hb5.out.setCell (by show w.heap.size ≤ w.heap.size + 1 + 1 + 1 + 1 + 1 + 1; omega) _).setCell (by show w.heap.size ≤ w.heap.size + 1 + 1 + 1 + 1 + 1 + 1; omega) _⟩
      · have x0' := HZ4.out.cellAt 0 _ rfl
        have x1' : (w4.setCell ⟨w.heap.size + 1 + 1 + 1 + 1 + 1 + 1, 0, none⟩ (.int .i64 0)).cell? ⟨w.heap.size + 1 + 1 + 1 + 1 + 1 + 1, 1, none⟩ = some (.slice none 0 0) := (sc_other (by simp)).trans (HZ4.out.cellAt 1 _ rfl)
        have f0 := HZ4.out.frozen 0
        have f1 := HZ4.out.frozen 1
        go_wp2
        refine ret_cell_tmp Tryz.results13 Tryz.underlying28 rfl (by kernel_rfl) rfl ((HZ4.out.set_ 0 (.int .i64 0)).set_ 1 (.slice none 0 0)) rfl rfl ⟨⟨none, 0, rfl, FrE.nil⟩, (Hb4.out.setCell (by show w.heap.size ≤ w.heap.size + 1 + 1 + 1 + 1 + 1 + 1; omega) _).setCell (by show w.heap.size ≤ w.heap.size + 1 + 1 + 1 + 1 + 1 + 1; omega) _⟩
    · have x0' := HZ3.out.cellAt 0 _ rfl
      have x1' : (w3.setCell ⟨w.heap.size + 1 + 1 + 1 + 1 + 1 + 1, 0, none⟩ (.int .i64 0)).cell? ⟨w.heap.size + 1 + 1 + 1 + 1 + 1 + 1, 1, none⟩ = some (.slice none 0 0) := (sc_other (by simp)).trans (HZ3.out.cellAt 1 _ rfl)
      have f0 := HZ3.out.frozen 0
      have f1 := HZ3.out.frozen 1
      go_wp2
      refine ret_cell_tmp Tryz.results13 Tryz.underlying28 rfl (by kernel_rfl) rfl ((HZ3.out.set_ 0 (.int .i64 0)).set_ 1 (.slice none 0 0)) rfl rfl ⟨⟨none, 0, rfl, FrE.nil⟩, (Hb3.out.setCell (by show w.heap.size ≤ w.heap.size + 1 + 1 + 1 + 1 + 1 + 1; omega) _).setCell (by show w.heap.size ≤ w.heap.size + 1 + 1 + 1 + 1 + 1 + 1; omega) _⟩
end Go.Proofs.YtjgmoffkecnmcaaGreat
