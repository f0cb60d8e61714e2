/- The reference's CutEdge: the graph. No statement of the program is proved here. -/
import Derived.Test.YtjgmoffkecnmcaaGreatCe4
namespace Go.Proofs.YtjgmoffkecnmcaaGreat
open Go.RowKit
set_option linter.unusedSimpArgs false
set_option linter.unusedVariables false
set_option maxRecDepth 20000

set_option maxHeartbeats 16000000 in
/-- The graph. -/
theorem specCut_yes (A : Option Addr) (c : Nat) (es : List (Int × Int)) (k u v : Nat) (w : World) (N : Nat) (hl : es.length ≤ 1000) (hN : N ≤ 60) (hin : InN N es) (hr : RdE w A es) (hk : k < es.length) (hxy : es.getD k (0, 0) = ((u : Int), (v : Int))) (huv : u < 60 ∧ v < 60) (hq : Hid (isGraphB N es = true)) (he : Hid ([(k : Int)].all (fun v => inB v 0 ((es.length : Int) - 1)) = true)) (ht1 : (atL es u).length = 3) (ht2 : (atL es v).length = 3) (hj : joinC es u v es.length = 1) (x0 x1 y0 y1 : Nat) (hUA : endW es u k = [(x0 : Int), (x1 : Int)]) (hUB : endW es v k = [(y0 : Int), (y1 : Int)]) (h1 : x0 ≠ x1) (h2 : y0 ≠ y1) (hN2 : N ≠ 2) (hxN : (x0 < N ∧ x1 < N) ∧ (y0 < N ∧ y1 < N)) (hu0 : 0 ≤ (u : Int) ∧ 0 ≤ (v : Int)) (hT0 : (setN [(u : Int), (v : Int)]).testBit x0 = false) (hT1 : (setN [(u : Int), (v : Int)]).testBit x1 = false) (hT2 : (setN [(u : Int), (v : Int)]).testBit y0 = false) (hT3 : (setN [(u : Int), (v : Int)]).testBit y1 = false) :
    Calls Tryz.prog 6 #[.agg #[.int .i64 N, .slice A es.length c], .int .i64 (k : Int)] w fun e w' => RetG w' w.heap.size e ((N : Int) - 2) (madeE (cutL (setN [(u : Int), (v : Int)]) es [(x0 : Int), (x1 : Int)] [(y0 : Int), (y1 : Int)])) 0 ∧ Below w.heap.size w w' := by
  obtain ⟨bA, oA, rfl, hbA, hcA'⟩ := hr.pos (by omega)
  have hcA := hcA' k hk
  have cv := fun W G (hW : Below w.heap.size w W) (hG : RdI W G [(k : Int)]) => l06Edges_b N (some ⟨bA, oA, none⟩) c es G 1 [(k : Int)] W true true hq he (by omega) (by simp) (hr.below hW) hG
  rw [show gcode true true = 0 from rfl] at cv
  have C1 := fun W (hW : Below w.heap.size w W) => l06Joined_b N (some ⟨bA, oA, none⟩) c es u v W (by omega) (hr.below hW)
  have c2 := fun W (hW : Below w.heap.size w W) => l06Ends_b N (some ⟨bA, oA, none⟩) c es N u k W hl (by omega) (by omega) hin ht1 (hr.below hW)
  have c3 := fun W (hW : Below w.heap.size w W) => l06Ends_b N (some ⟨bA, oA, none⟩) c es N v k W hl (by omega) (by omega) hin ht2 (hr.below hW)
  obtain ⟨j, Hj⟩ : ∃ j, Hid (joinC es u v es.length = j) := ⟨_, rfl⟩
  rw [Hj.out] at hj C1
  generalize joinF es u v es.length = i1 at *
  have g2 : (j != 1) = false := by simpa using hj
  have hlU : (endW es u k).length = 2 := by rw [hUA]; rfl
  have hlV : (endW es v k).length = 2 := by rw [hUB]; rfl
  rw [hlU, hUA] at c2
  rw [hlV, hUB] at c3
  have c5 := fun W G (hW : Below w.heap.size w W) (hG : RdI W G [(u : Int), (v : Int)]) => l06Without_b N (some ⟨bA, oA, none⟩) c es 0 G 2 [(u : Int), (v : Int)] W hl (by omega) (by omega) (by simp) (by simp) hin (hr.below hW) hG
  have hWl := woL_len (setN [(u : Int), (v : Int)]) 0 es
  have cm := Lib.hid fun Q cc (W : World) hQ => l01Made_b ((N : Int) - 2) Q cc (cutL (setN [(u : Int), (v : Int)]) es [(x0 : Int), (x1 : Int)] [(y0 : Int), (y1 : Int)]) W (by rw [cutL_len]; omega) hQ
  have g3 : ((x0 : Int) == (x1 : Int)) = false := by simp; omega
  have g4 : ((y0 : Int) == (y1 : Int)) = false := by simp; omega
  have g5 : ((N : Int) == 2) = false := by simp; omega
  have p1 : wrap64 ((N : Int) - 2) = (N : Int) - 2 := wrap64_small (by omega) (by omega)
  obtain ⟨r0, Hr0⟩ : ∃ r : Int, Hid (frV (setN [(u : Int), (v : Int)]) 0 x0 = r) := ⟨_, rfl⟩
  obtain ⟨r1, Hr1⟩ : ∃ r : Int, Hid (frV (setN [(u : Int), (v : Int)]) 0 x1 = r) := ⟨_, rfl⟩
  obtain ⟨r2, Hr2⟩ : ∃ r : Int, Hid (frV (setN [(u : Int), (v : Int)]) 0 y0 = r) := ⟨_, rfl⟩
  obtain ⟨r3, Hr3⟩ : ∃ r : Int, Hid (frV (setN [(u : Int), (v : Int)]) 0 y1 = r) := ⟨_, rfl⟩
  have hnum : ∀ x : Nat, x < N → (setN [(u : Int), (v : Int)]).testBit x = false → (numL (setN [(u : Int), (v : Int)]) 0 N).getD x 0 = frV (setN [(u : Int), (v : Int)]) 0 x := fun x hx hb => by rw [numL_getD hx, numV_no hb]
  have Hn0 := Lib.hid ((hnum x0 hxN.1.1 hT0).trans Hr0.out)
  have Hn1 := Lib.hid ((hnum x1 hxN.1.2 hT1).trans Hr1.out)
  have Hn2 := Lib.hid ((hnum y0 hxN.2.1 hT2).trans Hr2.out)
  have Hn3 := Lib.hid ((hnum y1 hxN.2.2 hT3).trans Hr3.out)
  have HL2 : Hid (cutL (setN [(u : Int), (v : Int)]) es [(x0 : Int), (x1 : Int)] [(y0 : Int), (y1 : Int)] = woL (setN [(u : Int), (v : Int)]) 0 es ++ [(r0, r1), (r2, r3)]) := by
    show _ = _
    rw [← Hr0.out, ← Hr1.out, ← Hr2.out, ← Hr3.out]
    rfl
  have HXl : Hid ((numL (setN [(u : Int), (v : Int)]) 0 N).length = N) := numL_len _ _ _
  obtain ⟨X, HX⟩ : ∃ P, Hid (numL (setN [(u : Int), (v : Int)]) 0 N = P) := ⟨_, rfl⟩
  rw [HX.out] at Hn0 Hn1 Hn2 Hn3 HXl
  simp only [HX.out] at c5
  obtain ⟨P0, HP0⟩ : ∃ P, Hid (woL (setN [(u : Int), (v : Int)]) 0 es = P) := ⟨_, rfl⟩
  rw [HP0.out] at HL2 hWl
  simp only [HP0.out] at c5
  obtain ⟨K0, HK0⟩ : ∃ P, Hid (P0.length = P) := ⟨_, rfl⟩
  rw [HK0.out] at hWl
  simp only [HK0.out] at c5
  obtain ⟨P2, HP2⟩ : ∃ P, Hid (cutL (setN [(u : Int), (v : Int)]) es [(x0 : Int), (x1 : Int)] [(y0 : Int), (y1 : Int)] = P) := ⟨_, rfl⟩
  rw [HP2.out] at cm HL2 ⊢
  have HKb : Hid (K0 ≤ 1000) := by show _ ≤ _; omega
  have hP2l : Hid (P2.length = K0 + 2) := by show _ = _; rw [HL2.out, List.length_append, HK0.out]; rfl
  obtain ⟨eu0, eu0b, eu0c⟩ := idxF x0 N hxN.1.1
  obtain ⟨eu1, eu1b, eu1c⟩ := idxF x1 N hxN.1.2
  obtain ⟨ev0, ev0b, ev0c⟩ := idxF y0 N hxN.2.1
  obtain ⟨ev1, ev1b, ev1c⟩ := idxF y1 N hxN.2.2
  have HxN := Lib.hid hxN
  obtain ⟨L, HL⟩ : ∃ L, Hid (es.length = L) := ⟨_, rfl⟩
  rw [HL.out] at cv C1 c2 c3 c5 hk hl ⊢
  have cv := Lib.hid cv
  have C1 := Lib.hid C1
  have C2 := Lib.hid c2
  have C3 := Lib.hid c3
  have C5 := Lib.hid c5
  obtain ⟨ek, ek2, ek3⟩ := idxF k L hk
  clear c2 c3 c5 hUA hUB hlU hlV h1 h2 hN2 hxN hT0 hT1 hT2 hT3 hnum HP2 HX hWl hu0 hr hq he hin hj Hj hcA' hN huv ht1 ht2
  go_enter Tryz.func6, Tryz.ntmps6
  go_wp2_with fail
  refine (cv.out (((w.alloc (.cells #[.int .i64 (N : Int), .slice (some ⟨bA, oA, none⟩) L c] 28)).alloc (.cells #[.int .i64 0, .slice none 0 0] 28)).alloc (.cells #[.int .i64 (k : Int)] 2)) (some ⟨w.heap.size + 1 + 1, 0, none⟩) (by (repeat' (first | (with_reducible exact Below.refl _ _) | (with_reducible assumption) | (with_reducible refine Below.alloc ?_ ?_ _) | (with_reducible refine Below.drew ?_) | (with_reducible refine below_drewN ?_ _) | (with_reducible refine Below.setCell ?_ ?_ _) | (with_reducible refine Below.trans ?_ (Below.mono (by assumption) ?_)) | (first | omega | (simp only [World.size_alloc, World.size_setCell, World.size_drew]; omega) | (simp; omega) | (simp; done))))) (blkI_rd (t := 2) (xs := [(k : Int)]) (Blk.new' _ (by simp)))).mono ?_
  rintro e w4 ⟨rfl, hb4'⟩
  have b4 : Below ((w.alloc (.cells #[.int .i64 (N : Int), .slice (some ⟨bA, oA, none⟩) L c] 28)).alloc (.cells #[.int .i64 0, .slice none 0 0] 28)).heap.size ((w.alloc (.cells #[.int .i64 (N : Int), .slice (some ⟨bA, oA, none⟩) L c] 28)).alloc (.cells #[.int .i64 0, .slice none 0 0] 28)) w4 := (Below.alloc (Below.refl _ _) (Nat.le_refl _) _).trans (hb4'.mono (by simp))
  clear hb4'
  have HG4 := Lib.hid (((Blk.new w _ _).alloc _).below b4 (by simp <;> omega) : Blk w4 w.heap.size 28 #[.int .i64 (N : Int), .slice (some ⟨bA, oA, none⟩) L c])
  have HZ4 := Lib.hid ((Blk.new' (n := w.heap.size + 1) _ (by simp)).below b4 (by simp) : Blk w4 (w.heap.size + 1) 28 #[.int .i64 0, .slice none 0 0])
  have Hb4 : Hid (Below w.heap.size w w4) := by show Below _ _ _; exact Below.trans (b := ((w.alloc (.cells #[.int .i64 (N : Int), .slice (some ⟨bA, oA, none⟩) L c] 28)).alloc (.cells #[.int .i64 0, .slice none 0 0] 28))) (by (repeat' (first | (with_reducible exact Below.refl _ _) | (with_reducible assumption) | (with_reducible refine Below.alloc ?_ ?_ _) | (with_reducible refine Below.drew ?_) | (with_reducible refine below_drewN ?_ _) | (with_reducible refine Below.setCell ?_ ?_ _) | (with_reducible refine Below.trans ?_ (Below.mono (by assumption) ?_)) | (first | omega | (simp only [World.size_alloc, World.size_setCell, World.size_drew]; omega) | (simp; omega) | (simp; done))))) (b4.mono (by simp; omega))
  clear b4
  have k0 := HG4.out.cellAt 0 _ rfl
  have k1 := HG4.out.cellAt 1 _ rfl
  have z9 := HZ4.out.lt
  have e0 := ((bcell Hb4.out).1 bA (oA + k * 2) hbA).trans hcA.1
  have e1 := ((bcell Hb4.out).1 bA (oA + k * 2 + 1) hbA).trans hcA.2
  rw [hxy] at e0 e1
  dsimp only at e0 e1
  go_wp2
  refine wp_region_noPanic ?_
  refine wp_region_held_drew (S := (fun w' => w'.cell? ⟨w.heap.size, 0, none⟩ = some (.int .i64 (N : Int)) ∧ w'.cell? ⟨w.heap.size, 1, none⟩ = some (.slice (some ⟨bA, oA, none⟩) L c) ∧ w'.cell? ⟨bA, oA + k * 2, none⟩ = some (.int .i64 u) ∧ w'.cell? ⟨bA, oA + k * 2 + 1, none⟩ = some (.int .i64 v))) (by kernel_rfl) ?_ (fun hHeld => ?_)
  · (try dsimp only); (first | exact ⟨k0, k1, e0, e1⟩ | assumption | (first | go_keep | (obtain ⟨hq, _⟩ := bcell ‹Below _ _ _›; (repeat' apply And.intro) <;> (rw [hq _ _ (by first | assumption | omega | (simp; done) | (simp; omega) | (simp; assumption))] <;> (first | assumption | (simp [*]; done))))))
  refine wpAnyH_take_d (i := 0) (d := some 23) (v := ?v1) rfl rfl (by kernel_rfl) (by kernel_rfl) (by kernel_rfl) (fun _ _ _ h => h) (Or.inl ⟨by kernel_rfl, ?y1⟩) (by assumption) ?_
  case y1 => (intro w' hSw; (try dsimp only at hSw); go_simp; try with_reducible rfl)
  try simp only [Act.put, List.setIfInBounds_toArray, List.set_cons_zero, List.set_cons_succ]
  refine wpAnyH_take_d (i := 1) (d := some 24) (v := ?v2) rfl rfl (by kernel_rfl) (by kernel_rfl) (by kernel_rfl) (fun _ _ _ h => h) (Or.inl ⟨by kernel_rfl, ?y2⟩) (by assumption) ?_
  case y2 => (intro w' hSw; (try dsimp only at hSw); go_simp; try with_reducible rfl)
  try simp only [Act.put, List.setIfInBounds_toArray, List.set_cons_zero, List.set_cons_succ]
  refine wpAnyH_take_d (i := 2) (d := some 25) (v := ?v3) rfl rfl (by kernel_rfl) (by kernel_rfl) (by kernel_rfl) (fun _ _ _ h => h) (Or.inl ⟨by kernel_rfl, ?y3⟩) (by assumption) ?_
  case y3 => (intro w' hSw; (try dsimp only at hSw); go_simp; try with_reducible rfl)
  try simp only [Act.put, List.setIfInBounds_toArray, List.set_cons_zero, List.set_cons_succ]
  refine wpAnyH_take_d (i := 3) (d := some 26) (v := ?v4) rfl rfl (by kernel_rfl) (by kernel_rfl) (by kernel_rfl) (fun _ _ _ h => h) (Or.inl ⟨by kernel_rfl, ?y4⟩) (by assumption) ?_
  case y4 => (intro w' hSw; (try dsimp only at hSw); go_simp; try with_reducible rfl)
  try simp only [Act.put, List.setIfInBounds_toArray, List.set_cons_zero, List.set_cons_succ]
  refine wpAnyH_take_d (i := 4) (d := some 27) (v := ?v5) rfl rfl (by kernel_rfl) (by kernel_rfl) (by kernel_rfl) (fun _ _ _ h => h) (Or.inl ⟨by kernel_rfl, ?y5⟩) (by assumption) ?_
  case y5 => (intro w' hSw; (try dsimp only at hSw); go_simp; try with_reducible rfl)
  try simp only [Act.put, List.setIfInBounds_toArray, List.set_cons_zero, List.set_cons_succ]
  refine wpAnyH_take_d (i := 5) (d := some 28) (v := ?v6) rfl rfl (by kernel_rfl) (by kernel_rfl) (by kernel_rfl) (fun _ _ _ h => h) (Or.inl ⟨by kernel_rfl, ?y6⟩) (by assumption) ?_
  case y6 => (intro w' hSw; (try dsimp only at hSw); go_simp; try with_reducible rfl)
  try simp only [Act.put, List.setIfInBounds_toArray, List.set_cons_zero, List.set_cons_succ]
  refine wpAnyH_take_d (i := 6) (d := some 29) (v := ?v7) rfl rfl (by kernel_rfl) (by kernel_rfl) (by kernel_rfl) (fun _ _ _ h => h) (Or.inl ⟨by kernel_rfl, ?y7⟩) (by assumption) ?_
  case y7 => (intro w' hSw; (try dsimp only at hSw); go_simp; try with_reducible rfl)
  try simp only [Act.put, List.setIfInBounds_toArray, List.set_cons_zero, List.set_cons_succ]
  refine wpAnyH_take_d (i := 7) (d := some 30) (v := ?v8) rfl rfl (by kernel_rfl) (by kernel_rfl) (by kernel_rfl) (fun _ _ _ h => h) (Or.inl ⟨by kernel_rfl, ?y8⟩) (by assumption) ?_
  case y8 => (intro w' hSw; (try dsimp only at hSw); go_simp; try with_reducible rfl)
  try simp only [Act.put, List.setIfInBounds_toArray, List.set_cons_zero, List.set_cons_succ]
  refine wpAnyH_take_d (i := 8) (d := some 31) (v := ?v9) rfl rfl (by kernel_rfl) (by kernel_rfl) (by kernel_rfl) (fun _ _ _ h => h) (Or.inl ⟨by kernel_rfl, ?y9⟩) (by assumption) ?_
  case y9 => (intro w' hSw; (try dsimp only at hSw); go_simp; try with_reducible rfl)
  try simp only [Act.put, List.setIfInBounds_toArray, List.set_cons_zero, List.set_cons_succ]
  refine wpAnyH_take_d (i := 9) (d := some 32) (v := ?v10) rfl rfl (by kernel_rfl) (by kernel_rfl) (by kernel_rfl) (fun _ _ _ h => h) (Or.inl ⟨by kernel_rfl, ?y10⟩) (by assumption) ?_
  case y10 => (intro w' hSw; (try dsimp only at hSw); go_simp; try with_reducible rfl)
  try simp only [Act.put, List.setIfInBounds_toArray, List.set_cons_zero, List.set_cons_succ]
  refine wpAnyH_take_d (i := 10) (d := some 33) (v := ?v11) rfl rfl (by kernel_rfl) (by kernel_rfl) (by kernel_rfl) (fun _ _ _ h => h) (Or.inl ⟨by kernel_rfl, ?y11⟩) (by assumption) ?_
  case y11 => (intro w' hSw; (try dsimp only at hSw); go_simp; try with_reducible rfl)
  try simp only [Act.put, List.setIfInBounds_toArray, List.set_cons_zero, List.set_cons_succ]
  refine wpAnyH_take_d (i := 11) (d := some 34) (v := ?v12) rfl rfl (by kernel_rfl) (by kernel_rfl) (by kernel_rfl) (fun _ _ _ h => h) (Or.inl ⟨by kernel_rfl, ?y12⟩) (by assumption) ?_
  case y12 => (intro w' hSw; (try dsimp only at hSw); go_simp; try with_reducible rfl)
  try simp only [Act.put, List.setIfInBounds_toArray, List.set_cons_zero, List.set_cons_succ]
  refine wpAnyH_take_d (i := 12) (d := some 7) (v := ?v13) rfl rfl (by kernel_rfl) (by kernel_rfl) (by kernel_rfl) (fun _ _ _ h => h) (Or.inl ⟨by kernel_rfl, ?y13⟩) (by assumption) ?_
  case y13 => (intro w' hSw; (try dsimp only at hSw); go_simp; try with_reducible rfl)
  try simp only [Act.put, List.setIfInBounds_toArray, List.set_cons_zero, List.set_cons_succ]
  refine wpAnyH_take_d (i := 13) (d := some 8) (v := ?v14) rfl rfl (by kernel_rfl) (by kernel_rfl) (by kernel_rfl) (fun _ _ _ h => h) (Or.inl ⟨by kernel_rfl, ?y14⟩) (by assumption) ?_
  case y14 => (intro w' hSw; (try dsimp only at hSw); go_simp; try with_reducible rfl)
  try simp only [Act.put, List.setIfInBounds_toArray, List.set_cons_zero, List.set_cons_succ]
  refine wpAnyH_done (by kernel_rfl) ?_ _
  refine NoPanic.normal ?_
  clear hHeld e0 e1
  obtain ⟨w5, hw5⟩ : ∃ x, x = w4.drew := ⟨_, rfl⟩
  have hb5 : Below w4.heap.size w4 w5 := by rw [hw5]; exact Below.drew (Below.refl _ _)
  rw [← hw5]
  clear hw5
  have HG5 := Lib.hid (HG4.out.below hb5 (by have := HZ4.out.lt; omega))
  have HZ5 := Lib.hid (HZ4.out.below hb5 HZ4.out.lt)
  have Hb5 : Hid (Below w.heap.size w w5) := Hb4.out.trans (hb5.mono (by have := HZ4.out.lt; omega))
  clear k0 k1 z9 HG4 HZ4 Hb4
  have k0 := HG5.out.cellAt 0 _ rfl
  have k1 := HG5.out.cellAt 1 _ rfl
  have z9 := HZ5.out.lt
  clear hb5
  go_wp2_with fail
  refine (C1.out w5 Hb5.out).mono ?_
  rintro e w6 ⟨rfl, hb6⟩
  have HG6 := Lib.hid (HG5.out.below hb6 (by have := HZ5.out.lt; omega))
  have HZ6 := Lib.hid (HZ5.out.below hb6 HZ5.out.lt)
  have Hb6 : Hid (Below w.heap.size w w6) := Hb5.out.trans (hb6.mono (by have := HZ5.out.lt; omega))
  clear k0 k1 z9 HG5 HZ5 Hb5
  have k0 := HG6.out.cellAt 0 _ rfl
  have k1 := HG6.out.cellAt 1 _ rfl
  have z9 := HZ6.out.lt
  clear hb6
  go_wp2
  refine wp_region_noPanic ?_
  refine wp_region_held_drew (S := (fun w' => w'.cell? ⟨w.heap.size, 0, none⟩ = some (.int .i64 (N : Int)) ∧ w'.cell? ⟨w.heap.size, 1, none⟩ = some (.slice (some ⟨bA, oA, none⟩) L c))) (by kernel_rfl) ?_ (fun hHeld => ?_)
  · (try dsimp only); (first | exact hS3 | exact hS2 | exact ⟨k0, k1⟩ | assumption | (first | go_keep | (obtain ⟨hq, _⟩ := bcell ‹Below _ _ _›; (repeat' apply And.intro) <;> (rw [hq _ _ (by first | assumption | omega | (simp; done) | (simp; omega) | (simp; assumption))] <;> (first | assumption | (simp [*]; done))))))
  refine wpAnyH_take_d (i := 0) (d := some 42) (v := ?v15) rfl rfl (by kernel_rfl) (by kernel_rfl) (by kernel_rfl) (fun _ _ _ h => h) (Or.inl ⟨by kernel_rfl, ?y15⟩) (by assumption) ?_
  case y15 => (intro w' hSw; (try dsimp only at hSw); go_simp; try with_reducible rfl)
  try simp only [Act.put, List.setIfInBounds_toArray, List.set_cons_zero, List.set_cons_succ]
  refine wpAnyH_take_d (i := 1) (d := some 43) (v := ?v16) rfl rfl (by kernel_rfl) (by kernel_rfl) (by kernel_rfl) (fun _ _ _ h => h) (Or.inl ⟨by kernel_rfl, ?y16⟩) (by assumption) ?_
  case y16 => (intro w' hSw; (try dsimp only at hSw); go_simp; try with_reducible rfl)
  try simp only [Act.put, List.setIfInBounds_toArray, List.set_cons_zero, List.set_cons_succ]
  refine wpAnyH_take_d (i := 2) (d := some 44) (v := ?v17) rfl rfl (by kernel_rfl) (by kernel_rfl) (by kernel_rfl) (fun _ _ _ h => h) (Or.inl ⟨by kernel_rfl, ?y17⟩) (by assumption) ?_
  case y17 => (intro w' hSw; (try dsimp only at hSw); go_simp; try with_reducible rfl)
  try simp only [Act.put, List.setIfInBounds_toArray, List.set_cons_zero, List.set_cons_succ]
  refine wpAnyH_take_d (i := 4) (d := some 46) (v := ?v18) rfl rfl (by kernel_rfl) (by kernel_rfl) (by kernel_rfl) (fun _ _ _ h => h) (Or.inl ⟨by kernel_rfl, ?y18⟩) (by assumption) ?_
  case y18 => (intro w' hSw; (try dsimp only at hSw); go_simp; try with_reducible rfl)
  try simp only [Act.put, List.setIfInBounds_toArray, List.set_cons_zero, List.set_cons_succ]
  refine wpAnyH_take_d (i := 5) (d := some 47) (v := ?v19) rfl rfl (by kernel_rfl) (by kernel_rfl) (by kernel_rfl) (fun _ _ _ h => h) (Or.inl ⟨by kernel_rfl, ?y19⟩) (by assumption) ?_
  case y19 => (intro w' hSw; (try dsimp only at hSw); go_simp; try with_reducible rfl)
  try simp only [Act.put, List.setIfInBounds_toArray, List.set_cons_zero, List.set_cons_succ]
  refine wpAnyH_take_d (i := 6) (d := some 48) (v := ?v20) rfl rfl (by kernel_rfl) (by kernel_rfl) (by kernel_rfl) (fun _ _ _ h => h) (Or.inl ⟨by kernel_rfl, ?y20⟩) (by assumption) ?_
  case y20 => (intro w' hSw; (try dsimp only at hSw); go_simp; try with_reducible rfl)
  try simp only [Act.put, List.setIfInBounds_toArray, List.set_cons_zero, List.set_cons_succ]
  refine wpAnyH_ready (rs := [3]) (by kernel_rfl) (by simp) ?_
  refine AllReadyH.cons rfl (fun K hK => ?_) AllReadyH.nil
  go_simp
  refine (C2.out _ (by have := Hb6.out; (repeat' (first | (with_reducible exact Below.refl _ _) | (with_reducible assumption) | (with_reducible refine Below.alloc ?_ ?_ _) | (with_reducible refine Below.drew ?_) | (with_reducible refine below_drewN ?_ _) | (with_reducible refine Below.setCell ?_ ?_ _) | (with_reducible refine Below.trans ?_ (Below.mono (by assumption) ?_)) | (first | omega | (simp only [World.size_alloc, World.size_setCell, World.size_drew]; omega) | (simp; omega) | (simp; done)))))).mono ?_; rintro e w7 ⟨A7, ca, rfl, hown7, hb7⟩; have bb7 : Below w6.heap.size w6 w7 := (Below.drew (Below.refl _ _)).trans hb7; have hS2 : w7.cell? ⟨w.heap.size, 0, none⟩ = some (.int .i64 (N : Int)) ∧ w7.cell? ⟨w.heap.size, 1, none⟩ = some (.slice (some ⟨bA, oA, none⟩) L c) := ⟨(HG6.out.below bb7 (by omega)).cellAt 0 _ rfl, (HG6.out.below bb7 (by omega)).cellAt 1 _ rfl⟩; have b7 : Below w.heap.size w w7 := Hb6.out.trans (bb7.mono Hb6.out.size)
  refine hK.out _ _ ?s21 (fun hHeld21 => ?_)
  case s21 => ((try dsimp only); (first | exact hS3 | exact hS2 | exact ⟨k0, k1⟩ | assumption | (first | go_keep | (obtain ⟨hq, _⟩ := bcell ‹Below _ _ _›; (repeat' apply And.intro) <;> (rw [hq _ _ (by first | assumption | omega | (simp; done) | (simp; omega) | (simp; assumption))] <;> (first | assumption | (simp [*]; done)))))))
  clear hK K hHeld
  have hHeld := hHeld21; clear hHeld21
  try simp only [Act.put, List.setIfInBounds_toArray, List.set_cons_zero, List.set_cons_succ]
  refine wpAnyH_ready (rs := [7]) (by kernel_rfl) (by simp) ?_
  refine AllReadyH.cons rfl (fun K hK => ?_) AllReadyH.nil
  go_simp
  refine (C3.out _ b7).mono ?_; rintro e w8 ⟨A8, cb, rfl, hown8, hb8⟩; have bb8 : Below w6.heap.size w6 w8 := bb7.trans (hb8.mono bb7.size); have hS3 : w8.cell? ⟨w.heap.size, 0, none⟩ = some (.int .i64 (N : Int)) ∧ w8.cell? ⟨w.heap.size, 1, none⟩ = some (.slice (some ⟨bA, oA, none⟩) L c) := ⟨(HG6.out.below bb8 (by omega)).cellAt 0 _ rfl, (HG6.out.below bb8 (by omega)).cellAt 1 _ rfl⟩
  refine hK.out _ _ ?s22 (fun hHeld22 => ?_)
  case s22 => ((try dsimp only); (first | exact hS3 | exact hS2 | exact ⟨k0, k1⟩ | assumption | (first | go_keep | (obtain ⟨hq, _⟩ := bcell ‹Below _ _ _›; (repeat' apply And.intro) <;> (rw [hq _ _ (by first | assumption | omega | (simp; done) | (simp; omega) | (simp; assumption))] <;> (first | assumption | (simp [*]; done)))))))
  clear hK K hHeld
  have hHeld := hHeld22; clear hHeld22
  try simp only [Act.put, List.setIfInBounds_toArray, List.set_cons_zero, List.set_cons_succ]
  refine wpAnyH_take_d (i := 8) (d := some 11) (v := ?v23) rfl rfl (by kernel_rfl) (by kernel_rfl) (by kernel_rfl) (fun _ _ _ h => h) (Or.inl ⟨by kernel_rfl, ?y23⟩) (by assumption) ?_
  case y23 => (intro w' hSw; (try dsimp only at hSw); go_simp; try with_reducible rfl)
  try simp only [Act.put, List.setIfInBounds_toArray, List.set_cons_zero, List.set_cons_succ]
  refine wpAnyH_take_d (i := 9) (d := some 12) (v := ?v24) rfl rfl (by kernel_rfl) (by kernel_rfl) (by kernel_rfl) (fun _ _ _ h => h) (Or.inl ⟨by kernel_rfl, ?y24⟩) (by assumption) ?_
  case y24 => (intro w' hSw; (try dsimp only at hSw); go_simp; try with_reducible rfl)
  try simp only [Act.put, List.setIfInBounds_toArray, List.set_cons_zero, List.set_cons_succ]
  refine wpAnyH_done (by kernel_rfl) ?_ _
  refine NoPanic.normal ?_
  have HA8 := Lib.hid (own_mono (own_below hown7 hb8) Hb6.out.size)
  have HB8 := Lib.hid (own_mono hown8 b7.size)
  clear hHeld hS2 hS3 hb7 b7 hown7 hown8 bb7 hb8
  have HG8 := Lib.hid (HG6.out.below bb8 (by have := HZ6.out.lt; omega))
  have HZ8 := Lib.hid (HZ6.out.below bb8 HZ6.out.lt)
  have Hb8 : Hid (Below w.heap.size w w8) := Hb6.out.trans (bb8.mono (by have := HZ6.out.lt; omega))
  clear k0 k1 z9 HG6 HZ6 Hb6
  have k0 := HG8.out.cellAt 0 _ rfl
  have k1 := HG8.out.cellAt 1 _ rfl
  have z9 := HZ8.out.lt
  clear bb8
  obtain ⟨ga, ca', hv8, _, _⟩ := own_someI HA8.out (by omega)
  injection hv8 with hv5 _ hv6
  subst hv5; subst hv6
  obtain ⟨gb, cb', hv8, _, _⟩ := own_someI HB8.out (by omega)
  injection hv8 with hv5 _ hv6
  subst hv5; subst hv6
  have a0 : w8.cell? ⟨ga, 0, none⟩ = some (.int .i64 (x0 : Int)) := own_cellI HA8.out rfl (by decide)
  have a1 : w8.cell? ⟨ga, 1, none⟩ = some (.int .i64 (x1 : Int)) := own_cellI HA8.out rfl (by decide)
  have b0 : w8.cell? ⟨gb, 0, none⟩ = some (.int .i64 (y0 : Int)) := own_cellI HB8.out rfl (by decide)
  have b1 : w8.cell? ⟨gb, 1, none⟩ = some (.int .i64 (y1 : Int)) := own_cellI HB8.out rfl (by decide)
  go_wp2
  refine wp_region_noPanic ?_
  refine wp_region_held_drew (S := (fun w' => w'.cell? ⟨w.heap.size, 0, none⟩ = some (.int .i64 (N : Int)) ∧ w'.cell? ⟨ga, 0, none⟩ = some (.int .i64 (x0 : Int)) ∧ w'.cell? ⟨ga, 1, none⟩ = some (.int .i64 (x1 : Int)) ∧ w'.cell? ⟨gb, 0, none⟩ = some (.int .i64 (y0 : Int)) ∧ w'.cell? ⟨gb, 1, none⟩ = some (.int .i64 (y1 : Int)))) (by kernel_rfl) ?_ (fun hHeld => ?_)
  · (try dsimp only); (first | exact ⟨k0, a0, a1, b0, b1⟩ | assumption | (first | go_keep | (obtain ⟨hq, _⟩ := bcell ‹Below _ _ _›; (repeat' apply And.intro) <;> (rw [hq _ _ (by first | assumption | omega | (simp; done) | (simp; omega) | (simp; assumption))] <;> (first | assumption | (simp [*]; done))))))
  refine wpAnyH_take_d (i := 0) (d := some 50) (v := ?v25) rfl rfl (by kernel_rfl) (by kernel_rfl) (by kernel_rfl) (fun _ _ _ h => h) (Or.inl ⟨by kernel_rfl, ?y25⟩) (by assumption) ?_
  case y25 => (intro w' hSw; (try dsimp only at hSw); go_simp; try with_reducible rfl)
  try simp only [Act.put, List.setIfInBounds_toArray, List.set_cons_zero, List.set_cons_succ]
  refine wpAnyH_take_d (i := 1) (d := some 51) (v := ?v26) rfl rfl (by kernel_rfl) (by kernel_rfl) (by kernel_rfl) (fun _ _ _ h => h) (Or.inl ⟨by kernel_rfl, ?y26⟩) (by assumption) ?_
  case y26 => (intro w' hSw; (try dsimp only at hSw); go_simp; try with_reducible rfl)
  try simp only [Act.put, List.setIfInBounds_toArray, List.set_cons_zero, List.set_cons_succ]
  refine wpAnyH_take_d (i := 2) (d := some 52) (v := ?v27) rfl rfl (by kernel_rfl) (by kernel_rfl) (by kernel_rfl) (fun _ _ _ h => h) (Or.inl ⟨by kernel_rfl, ?y27⟩) (by assumption) ?_
  case y27 => (intro w' hSw; (try dsimp only at hSw); go_simp; try with_reducible rfl)
  try simp only [Act.put, List.setIfInBounds_toArray, List.set_cons_zero, List.set_cons_succ]
  refine wpAnyH_take_d (i := 3) (d := some 53) (v := ?v28) rfl rfl (by kernel_rfl) (by kernel_rfl) (by kernel_rfl) (fun _ _ _ h => h) (Or.inl ⟨by kernel_rfl, ?y28⟩) (by assumption) ?_
  case y28 => (intro w' hSw; (try dsimp only at hSw); go_simp; try with_reducible rfl)
  try simp only [Act.put, List.setIfInBounds_toArray, List.set_cons_zero, List.set_cons_succ]
  refine wpAnyH_take_d (i := 4) (d := some 54) (v := ?v29) rfl rfl (by kernel_rfl) (by kernel_rfl) (by kernel_rfl) (fun _ _ _ h => h) (Or.inl ⟨by kernel_rfl, ?y29⟩) (by assumption) ?_
  case y29 => (intro w' hSw; (try dsimp only at hSw); go_simp; try with_reducible rfl)
  try simp only [Act.put, List.setIfInBounds_toArray, List.set_cons_zero, List.set_cons_succ]
  refine wpAnyH_take_d (i := 5) (d := some 55) (v := ?v30) rfl rfl (by kernel_rfl) (by kernel_rfl) (by kernel_rfl) (fun _ _ _ h => h) (Or.inl ⟨by kernel_rfl, ?y30⟩) (by assumption) ?_
  case y30 => (intro w' hSw; (try dsimp only at hSw); go_simp; try with_reducible rfl)
  try simp only [Act.put, List.setIfInBounds_toArray, List.set_cons_zero, List.set_cons_succ]
  refine wpAnyH_take_d (i := 6) (d := some 56) (v := ?v31) rfl rfl (by kernel_rfl) (by kernel_rfl) (by kernel_rfl) (fun _ _ _ h => h) (Or.inl ⟨by kernel_rfl, ?y31⟩) (by assumption) ?_
  case y31 => (intro w' hSw; (try dsimp only at hSw); go_simp; try with_reducible rfl)
  try simp only [Act.put, List.setIfInBounds_toArray, List.set_cons_zero, List.set_cons_succ]
  refine wpAnyH_take_d (i := 7) (d := some 57) (v := ?v32) rfl rfl (by kernel_rfl) (by kernel_rfl) (by kernel_rfl) (fun _ _ _ h => h) (Or.inl ⟨by kernel_rfl, ?y32⟩) (by assumption) ?_
  case y32 => (intro w' hSw; (try dsimp only at hSw); go_simp; try with_reducible rfl)
  try simp only [Act.put, List.setIfInBounds_toArray, List.set_cons_zero, List.set_cons_succ]
  refine wpAnyH_take_d (i := 8) (d := some 58) (v := ?v33) rfl rfl (by kernel_rfl) (by kernel_rfl) (by kernel_rfl) (fun _ _ _ h => h) (Or.inl ⟨by kernel_rfl, ?y33⟩) (by assumption) ?_
  case y33 => (intro w' hSw; (try dsimp only at hSw); go_simp; try with_reducible rfl)
  try simp only [Act.put, List.setIfInBounds_toArray, List.set_cons_zero, List.set_cons_succ]
  refine wpAnyH_take_d (i := 9) (d := some 59) (v := ?v34) rfl rfl (by kernel_rfl) (by kernel_rfl) (by kernel_rfl) (fun _ _ _ h => h) (Or.inl ⟨by kernel_rfl, ?y34⟩) (by assumption) ?_
  case y34 => (intro w' hSw; (try dsimp only at hSw); go_simp; try with_reducible rfl)
  try simp only [Act.put, List.setIfInBounds_toArray, List.set_cons_zero, List.set_cons_succ]
  refine wpAnyH_take_d (i := 10) (d := some 60) (v := ?v35) rfl rfl (by kernel_rfl) (by kernel_rfl) (by kernel_rfl) (fun _ _ _ h => h) (Or.inl ⟨by kernel_rfl, ?y35⟩) (by assumption) ?_
  case y35 => (intro w' hSw; (try dsimp only at hSw); go_simp; try with_reducible rfl)
  try simp only [Act.put, List.setIfInBounds_toArray, List.set_cons_zero, List.set_cons_succ]
  refine wpAnyH_take_d (i := 11) (d := some 61) (v := ?v36) rfl rfl (by kernel_rfl) (by kernel_rfl) (by kernel_rfl) (fun _ _ _ h => h) (Or.inl ⟨by kernel_rfl, ?y36⟩) (by assumption) ?_
  case y36 => (intro w' hSw; (try dsimp only at hSw); go_simp; try with_reducible rfl)
  try simp only [Act.put, List.setIfInBounds_toArray, List.set_cons_zero, List.set_cons_succ]
  refine wpAnyH_take_d (i := 12) (d := some 62) (v := ?v37) rfl rfl (by kernel_rfl) (by kernel_rfl) (by kernel_rfl) (fun _ _ _ h => h) (Or.inl ⟨by kernel_rfl, ?y37⟩) (by assumption) ?_
  case y37 => (intro w' hSw; (try dsimp only at hSw); go_simp; try with_reducible rfl)
  try simp only [Act.put, List.setIfInBounds_toArray, List.set_cons_zero, List.set_cons_succ]
  refine wpAnyH_take_d (i := 13) (d := some 63) (v := ?v38) rfl rfl (by kernel_rfl) (by kernel_rfl) (by kernel_rfl) (fun _ _ _ h => h) (Or.inl ⟨by kernel_rfl, ?y38⟩) (by assumption) ?_
  case y38 => (intro w' hSw; (try dsimp only at hSw); go_simp; try with_reducible rfl)
  try simp only [Act.put, List.setIfInBounds_toArray, List.set_cons_zero, List.set_cons_succ]
  refine wpAnyH_take_d (i := 14) (d := some 64) (v := ?v39) rfl rfl (by kernel_rfl) (by kernel_rfl) (by kernel_rfl) (fun _ _ _ h => h) (Or.inl ⟨by kernel_rfl, ?y39⟩) (by assumption) ?_
  case y39 => (intro w' hSw; (try dsimp only at hSw); go_simp; try with_reducible rfl)
  try simp only [Act.put, List.setIfInBounds_toArray, List.set_cons_zero, List.set_cons_succ]
  refine wpAnyH_take_d (i := 15) (d := some 65) (v := ?v40) rfl rfl (by kernel_rfl) (by kernel_rfl) (by kernel_rfl) (fun _ _ _ h => h) (Or.inl ⟨by kernel_rfl, ?y40⟩) (by assumption) ?_
  case y40 => (intro w' hSw; (try dsimp only at hSw); go_simp; try with_reducible rfl)
  try simp only [Act.put, List.setIfInBounds_toArray, List.set_cons_zero, List.set_cons_succ]
  refine wpAnyH_take_d (i := 16) (d := some 66) (v := ?v41) rfl rfl (by kernel_rfl) (by kernel_rfl) (by kernel_rfl) (fun _ _ _ h => h) (Or.inl ⟨by kernel_rfl, ?y41⟩) (by assumption) ?_
  case y41 => (intro w' hSw; (try dsimp only at hSw); go_simp; try with_reducible rfl)
  try simp only [Act.put, List.setIfInBounds_toArray, List.set_cons_zero, List.set_cons_succ]
  refine wpAnyH_take_d (i := 17) (d := some 67) (v := ?v42) rfl rfl (by kernel_rfl) (by kernel_rfl) (by kernel_rfl) (fun _ _ _ h => h) (Or.inl ⟨by kernel_rfl, ?y42⟩) (by assumption) ?_
  case y42 => (intro w' hSw; (try dsimp only at hSw); go_simp; try with_reducible rfl)
  try simp only [Act.put, List.setIfInBounds_toArray, List.set_cons_zero, List.set_cons_succ]
  refine wpAnyH_take_d (i := 18) (d := some 68) (v := ?v43) rfl rfl (by kernel_rfl) (by kernel_rfl) (by kernel_rfl) (fun _ _ _ h => h) (Or.inl ⟨by kernel_rfl, ?y43⟩) (by assumption) ?_
  case y43 => (intro w' hSw; (try dsimp only at hSw); go_simp; try with_reducible rfl)
  try simp only [Act.put, List.setIfInBounds_toArray, List.set_cons_zero, List.set_cons_succ]
  refine wpAnyH_take_d (i := 19) (d := some 69) (v := ?v44) rfl rfl (by kernel_rfl) (by kernel_rfl) (by kernel_rfl) (fun _ _ _ h => h) (Or.inl ⟨by kernel_rfl, ?y44⟩) (by assumption) ?_
  case y44 => (intro w' hSw; (try dsimp only at hSw); go_simp; try with_reducible rfl)
  try simp only [Act.put, List.setIfInBounds_toArray, List.set_cons_zero, List.set_cons_succ]
  refine wpAnyH_take_d (i := 20) (d := some 70) (v := ?v45) rfl rfl (by kernel_rfl) (by kernel_rfl) (by kernel_rfl) (fun _ _ _ h => h) (Or.inl ⟨by kernel_rfl, ?y45⟩) (by assumption) ?_
  case y45 => (intro w' hSw; (try dsimp only at hSw); go_simp; try with_reducible rfl)
  try simp only [Act.put, List.setIfInBounds_toArray, List.set_cons_zero, List.set_cons_succ]
  refine wpAnyH_take_d (i := 21) (d := some 71) (v := ?v46) rfl rfl (by kernel_rfl) (by kernel_rfl) (by kernel_rfl) (fun _ _ _ h => h) (Or.inl ⟨by kernel_rfl, ?y46⟩) (by assumption) ?_
  case y46 => (intro w' hSw; (try dsimp only at hSw); go_simp; try with_reducible rfl)
  try simp only [Act.put, List.setIfInBounds_toArray, List.set_cons_zero, List.set_cons_succ]
  refine wpAnyH_take_d (i := 22) (d := some 72) (v := ?v47) rfl rfl (by kernel_rfl) (by kernel_rfl) (by kernel_rfl) (fun _ _ _ h => h) (Or.inl ⟨by kernel_rfl, ?y47⟩) (by assumption) ?_
  case y47 => (intro w' hSw; (try dsimp only at hSw); go_simp; try with_reducible rfl)
  try simp only [Act.put, List.setIfInBounds_toArray, List.set_cons_zero, List.set_cons_succ]
  refine wpAnyH_take_d (i := 23) (d := some 73) (v := ?v48) rfl rfl (by kernel_rfl) (by kernel_rfl) (by kernel_rfl) (fun _ _ _ h => h) (Or.inl ⟨by kernel_rfl, ?y48⟩) (by assumption) ?_
  case y48 => (intro w' hSw; (try dsimp only at hSw); go_simp; try with_reducible rfl)
  try simp only [Act.put, List.setIfInBounds_toArray, List.set_cons_zero, List.set_cons_succ]
  refine wpAnyH_take_d (i := 24) (d := some 74) (v := ?v49) rfl rfl (by kernel_rfl) (by kernel_rfl) (by kernel_rfl) (fun _ _ _ h => h) (Or.inl ⟨by kernel_rfl, ?y49⟩) (by assumption) ?_
  case y49 => (intro w' hSw; (try dsimp only at hSw); go_simp; try with_reducible rfl)
  try simp only [Act.put, List.setIfInBounds_toArray, List.set_cons_zero, List.set_cons_succ]
  refine wpAnyH_done (by kernel_rfl) ?_ _
  refine NoPanic.normal ?_
  clear hHeld a0 a1 b0 b1
  obtain ⟨w9, hw9⟩ : ∃ x, x = w8.drew := ⟨_, rfl⟩
  have hb9 : Below w8.heap.size w8 w9 := by rw [hw9]; exact Below.drew (Below.refl _ _)
  rw [← hw9]
  clear hw9
  have HA9 := Lib.hid (own_below HA8.out hb9)
  have HB9 := Lib.hid (own_below HB8.out hb9)
  clear HA8 HB8
  have HG9 := Lib.hid (HG8.out.below hb9 (by have := HZ8.out.lt; omega))
  have HZ9 := Lib.hid (HZ8.out.below hb9 HZ8.out.lt)
  have Hb9 : Hid (Below w.heap.size w w9) := Hb8.out.trans (hb9.mono (by have := HZ8.out.lt; omega))
  clear k0 k1 z9 HG8 HZ8 Hb8
  have k0 := HG9.out.cellAt 0 _ rfl
  have k1 := HG9.out.cellAt 1 _ rfl
  have z9 := HZ9.out.lt
  clear hb9
  go_wp2_with fail
  refine (C5.out (w9.alloc (.cells #[.int .i64 (u : Int), .int .i64 (v : Int)] 2)) (some ⟨w9.heap.size, 0, none⟩) (Hb9.out.alloc (by omega) _) (blkI_rd (t := 2) (xs := [(u : Int), (v : Int)]) (Blk.new' _ rfl))).mono ?_
  rintro e w10 ⟨ge, ce, gi, ci, rfl, hE10, hI10, hb10⟩
  have hbb10 : Below w9.heap.size w9 w10 := (Below.alloc (Below.refl _ _) (Nat.le_refl _) _).trans (hb10.mono (by simp))
  have HE10 := Lib.hid (own_mono hE10 (show w.heap.size ≤ _ by simp; omega))
  have HI10 := Lib.hid (own_mono hI10 (show w.heap.size ≤ _ by simp; omega))
  have HA10 := Lib.hid (own_below HA9.out hbb10)
  have HB10 := Lib.hid (own_below HB9.out hbb10)
  clear hE10 hI10 hb10 HA9 HB9
  have HG10 := Lib.hid (HG9.out.below hbb10 (by have := HZ9.out.lt; omega))
  have HZ10 := Lib.hid (HZ9.out.below hbb10 HZ9.out.lt)
  have Hb10 : Hid (Below w.heap.size w w10) := Hb9.out.trans (hbb10.mono (by have := HZ9.out.lt; omega))
  clear k0 k1 z9 HG9 HZ9 Hb9
  have k0 := HG10.out.cellAt 0 _ rfl
  have k1 := HG10.out.cellAt 1 _ rfl
  have z9 := HZ10.out.lt
  clear hbb10
  have a0 : w10.cell? ⟨ga, 0, none⟩ = some (.int .i64 (x0 : Int)) := own_cellI HA10.out rfl (by decide)
  have a1 : w10.cell? ⟨ga, 1, none⟩ = some (.int .i64 (x1 : Int)) := own_cellI HA10.out rfl (by decide)
  have b0 : w10.cell? ⟨gb, 0, none⟩ = some (.int .i64 (y0 : Int)) := own_cellI HB10.out rfl (by decide)
  have b1 : w10.cell? ⟨gb, 1, none⟩ = some (.int .i64 (y1 : Int)) := own_cellI HB10.out rfl (by decide)
  have d0 : w10.cell? ⟨gi, x0, none⟩ = some (.int .i64 r0) := by have h := own_cellI HI10.out HXl.out HxN.out.1.1; rw [Hn0.out] at h; exact h
  have d1 : w10.cell? ⟨gi, x1, none⟩ = some (.int .i64 r1) := by have h := own_cellI HI10.out HXl.out HxN.out.1.2; rw [Hn1.out] at h; exact h
  have d2 : w10.cell? ⟨gi, y0, none⟩ = some (.int .i64 r2) := by have h := own_cellI HI10.out HXl.out HxN.out.2.1; rw [Hn2.out] at h; exact h
  have d3 : w10.cell? ⟨gi, y1, none⟩ = some (.int .i64 r3) := by have h := own_cellI HI10.out HXl.out HxN.out.2.2; rw [Hn3.out] at h; exact h
  have q1 := (HA10.out.lt ga rfl).2
  have q2 := (HB10.out.lt gb rfl).2
  have q3 := (HI10.out.lt gi rfl).2
  have hsz := Hb10.out.size
  have hB3 : Below w10.heap.size w10 (w10.drew.alloc (.cells #[.int .i64 r0, .int .i64 r1, .int .i64 r2, .int .i64 r3] 40)) := by (repeat' (first | (with_reducible exact Below.refl _ _) | (with_reducible assumption) | (with_reducible refine Below.alloc ?_ ?_ _) | (with_reducible refine Below.drew ?_) | (with_reducible refine below_drewN ?_ _) | (with_reducible refine Below.setCell ?_ ?_ _) | (with_reducible refine Below.trans ?_ (Below.mono (by assumption) ?_)) | (first | omega | (simp only [World.size_alloc, World.size_setCell, World.size_drew]; omega) | (simp; omega) | (simp; done))))
  have hown2 := own_below HE10.out hB3
  have hnew : RdE (w10.drew.alloc (.cells #[.int .i64 r0, .int .i64 r1, .int .i64 r2, .int .i64 r3] 40)) (some ⟨w10.heap.size, 0, none⟩) [(r0, r1), (r2, r3)] := blkE_rd (t := 40) (es := [(r0, r1), (r2, r3)]) (Blk.new' (n := w10.heap.size) _ (by simp))
  have hb9 : Below w.heap.size w (w10.drew.alloc (.cells #[.int .i64 r0, .int .i64 r1, .int .i64 r2, .int .i64 r3] 40)) := Hb10.out.trans (hB3.mono hsz)
  go_wp2
  refine wp_region_noPanic ?_
  refine wp_region_held_drew (S := (fun w' => w'.cell? ⟨ga, 0, none⟩ = some (.int .i64 (x0 : Int)) ∧ w'.cell? ⟨ga, 1, none⟩ = some (.int .i64 (x1 : Int)) ∧ w'.cell? ⟨gb, 0, none⟩ = some (.int .i64 (y0 : Int)) ∧ w'.cell? ⟨gb, 1, none⟩ = some (.int .i64 (y1 : Int)) ∧ w'.cell? ⟨gi, x0, none⟩ = some (.int .i64 r0) ∧ w'.cell? ⟨gi, x1, none⟩ = some (.int .i64 r1) ∧ w'.cell? ⟨gi, y0, none⟩ = some (.int .i64 r2) ∧ w'.cell? ⟨gi, y1, none⟩ = some (.int .i64 r3))) (by kernel_rfl) ?_ (fun hHeld => ?_)
  · (try dsimp only); (first | exact hS3 | exact hS2 | exact ⟨a0, a1, b0, b1, d0, d1, d2, d3⟩ | assumption | (first | go_keep | (obtain ⟨hq, _⟩ := bcell ‹Below _ _ _›; (repeat' apply And.intro) <;> (rw [hq _ _ (by first | assumption | omega | (simp; done) | (simp; omega) | (simp; assumption))] <;> (first | assumption | (simp [*]; done))))))
  refine wpAnyH_take_d (i := 0) (d := some 84) (v := ?v50) rfl rfl (by kernel_rfl) (by kernel_rfl) (by kernel_rfl) (fun _ _ _ h => h) (Or.inl ⟨by kernel_rfl, ?y50⟩) (by assumption) ?_
  case y50 => (intro w' hSw; (try dsimp only at hSw); go_simp; try with_reducible rfl)
  try simp only [Act.put, List.setIfInBounds_toArray, List.set_cons_zero, List.set_cons_succ]
  refine wpAnyH_take_d (i := 1) (d := some 85) (v := ?v51) rfl rfl (by kernel_rfl) (by kernel_rfl) (by kernel_rfl) (fun _ _ _ h => h) (Or.inl ⟨by kernel_rfl, ?y51⟩) (by assumption) ?_
  case y51 => (intro w' hSw; (try dsimp only at hSw); go_simp; try with_reducible rfl)
  try simp only [Act.put, List.setIfInBounds_toArray, List.set_cons_zero, List.set_cons_succ]
  refine wpAnyH_take_d (i := 2) (d := some 86) (v := ?v52) rfl rfl (by kernel_rfl) (by kernel_rfl) (by kernel_rfl) (fun _ _ _ h => h) (Or.inl ⟨by kernel_rfl, ?y52⟩) (by assumption) ?_
  case y52 => (intro w' hSw; (try dsimp only at hSw); go_simp; try with_reducible rfl)
  try simp only [Act.put, List.setIfInBounds_toArray, List.set_cons_zero, List.set_cons_succ]
  refine wpAnyH_take_d (i := 3) (d := some 87) (v := ?v53) rfl rfl (by kernel_rfl) (by kernel_rfl) (by kernel_rfl) (fun _ _ _ h => h) (Or.inl ⟨by kernel_rfl, ?y53⟩) (by assumption) ?_
  case y53 => (intro w' hSw; (try dsimp only at hSw); go_simp; try with_reducible rfl)
  try simp only [Act.put, List.setIfInBounds_toArray, List.set_cons_zero, List.set_cons_succ]
  refine wpAnyH_take_d (i := 4) (d := some 88) (v := ?v54) rfl rfl (by kernel_rfl) (by kernel_rfl) (by kernel_rfl) (fun _ _ _ h => h) (Or.inl ⟨by kernel_rfl, ?y54⟩) (by assumption) ?_
  case y54 => (intro w' hSw; (try dsimp only at hSw); go_simp; try with_reducible rfl)
  try simp only [Act.put, List.setIfInBounds_toArray, List.set_cons_zero, List.set_cons_succ]
  refine wpAnyH_take_d (i := 5) (d := some 89) (v := ?v55) rfl rfl (by kernel_rfl) (by kernel_rfl) (by kernel_rfl) (fun _ _ _ h => h) (Or.inl ⟨by kernel_rfl, ?y55⟩) (by assumption) ?_
  case y55 => (intro w' hSw; (try dsimp only at hSw); go_simp; try with_reducible rfl)
  try simp only [Act.put, List.setIfInBounds_toArray, List.set_cons_zero, List.set_cons_succ]
  refine wpAnyH_take_d (i := 6) (d := some 90) (v := ?v56) rfl rfl (by kernel_rfl) (by kernel_rfl) (by kernel_rfl) (fun _ _ _ h => h) (Or.inl ⟨by kernel_rfl, ?y56⟩) (by assumption) ?_
  case y56 => (intro w' hSw; (try dsimp only at hSw); go_simp; try with_reducible rfl)
  try simp only [Act.put, List.setIfInBounds_toArray, List.set_cons_zero, List.set_cons_succ]
  refine wpAnyH_take_d (i := 7) (d := some 91) (v := ?v57) rfl rfl (by kernel_rfl) (by kernel_rfl) (by kernel_rfl) (fun _ _ _ h => h) (Or.inl ⟨by kernel_rfl, ?y57⟩) (by assumption) ?_
  case y57 => (intro w' hSw; (try dsimp only at hSw); go_simp; try with_reducible rfl)
  try simp only [Act.put, List.setIfInBounds_toArray, List.set_cons_zero, List.set_cons_succ]
  refine wpAnyH_take_d (i := 8) (d := some 92) (v := ?v58) rfl rfl (by kernel_rfl) (by kernel_rfl) (by kernel_rfl) (fun _ _ _ h => h) (Or.inl ⟨by kernel_rfl, ?y58⟩) (by assumption) ?_
  case y58 => (intro w' hSw; (try dsimp only at hSw); go_simp; try with_reducible rfl)
  try simp only [Act.put, List.setIfInBounds_toArray, List.set_cons_zero, List.set_cons_succ]
  refine wpAnyH_take_d (i := 9) (d := some 93) (v := ?v59) rfl rfl (by kernel_rfl) (by kernel_rfl) (by kernel_rfl) (fun _ _ _ h => h) (Or.inl ⟨by kernel_rfl, ?y59⟩) (by assumption) ?_
  case y59 => (intro w' hSw; (try dsimp only at hSw); go_simp; try with_reducible rfl)
  try simp only [Act.put, List.setIfInBounds_toArray, List.set_cons_zero, List.set_cons_succ]
  refine wpAnyH_take_d (i := 10) (d := some 94) (v := ?v60) rfl rfl (by kernel_rfl) (by kernel_rfl) (by kernel_rfl) (fun _ _ _ h => h) (Or.inl ⟨by kernel_rfl, ?y60⟩) (by assumption) ?_
  case y60 => (intro w' hSw; (try dsimp only at hSw); go_simp; try with_reducible rfl)
  try simp only [Act.put, List.setIfInBounds_toArray, List.set_cons_zero, List.set_cons_succ]
  refine wpAnyH_take_d (i := 11) (d := some 95) (v := ?v61) rfl rfl (by kernel_rfl) (by kernel_rfl) (by kernel_rfl) (fun _ _ _ h => h) (Or.inl ⟨by kernel_rfl, ?y61⟩) (by assumption) ?_
  case y61 => (intro w' hSw; (try dsimp only at hSw); go_simp; try with_reducible rfl)
  try simp only [Act.put, List.setIfInBounds_toArray, List.set_cons_zero, List.set_cons_succ]
  refine wpAnyH_take_d (i := 12) (d := some 96) (v := ?v62) rfl rfl (by kernel_rfl) (by kernel_rfl) (by kernel_rfl) (fun _ _ _ h => h) (Or.inl ⟨by kernel_rfl, ?y62⟩) (by assumption) ?_
  case y62 => (intro w' hSw; (try dsimp only at hSw); go_simp; try with_reducible rfl)
  try simp only [Act.put, List.setIfInBounds_toArray, List.set_cons_zero, List.set_cons_succ]
  refine wpAnyH_take_d (i := 13) (d := some 97) (v := ?v63) rfl rfl (by kernel_rfl) (by kernel_rfl) (by kernel_rfl) (fun _ _ _ h => h) (Or.inl ⟨by kernel_rfl, ?y63⟩) (by assumption) ?_
  case y63 => (intro w' hSw; (try dsimp only at hSw); go_simp; try with_reducible rfl)
  try simp only [Act.put, List.setIfInBounds_toArray, List.set_cons_zero, List.set_cons_succ]
  refine wpAnyH_take_d (i := 14) (d := some 98) (v := ?v64) rfl rfl (by kernel_rfl) (by kernel_rfl) (by kernel_rfl) (fun _ _ _ h => h) (Or.inl ⟨by kernel_rfl, ?y64⟩) (by assumption) ?_
  case y64 => (intro w' hSw; (try dsimp only at hSw); go_simp; try with_reducible rfl)
  try simp only [Act.put, List.setIfInBounds_toArray, List.set_cons_zero, List.set_cons_succ]
  refine wpAnyH_take_d (i := 15) (d := some 99) (v := ?v65) rfl rfl (by kernel_rfl) (by kernel_rfl) (by kernel_rfl) (fun _ _ _ h => h) (Or.inl ⟨by kernel_rfl, ?y65⟩) (by assumption) ?_
  case y65 => (intro w' hSw; (try dsimp only at hSw); go_simp; try with_reducible rfl)
  try simp only [Act.put, List.setIfInBounds_toArray, List.set_cons_zero, List.set_cons_succ]
  refine wpAnyH_take_d (i := 16) (d := some 100) (v := ?v66) rfl rfl (by kernel_rfl) (by kernel_rfl) (by kernel_rfl) (fun _ _ _ h => h) (Or.inl ⟨by kernel_rfl, ?y66⟩) (by assumption) ?_
  case y66 => (intro w' hSw; (try dsimp only at hSw); go_simp; try with_reducible rfl)
  try simp only [Act.put, List.setIfInBounds_toArray, List.set_cons_zero, List.set_cons_succ]
  refine wpAnyH_take_d (i := 17) (d := some 101) (v := ?v67) rfl rfl (by kernel_rfl) (by kernel_rfl) (by kernel_rfl) (fun _ _ _ h => h) (Or.inl ⟨by kernel_rfl, ?y67⟩) (by assumption) ?_
  case y67 => (intro w' hSw; (try dsimp only at hSw); go_simp; try with_reducible rfl)
  try simp only [Act.put, List.setIfInBounds_toArray, List.set_cons_zero, List.set_cons_succ]
  refine wpAnyH_take_d (i := 18) (d := some 102) (v := ?v68) rfl rfl (by kernel_rfl) (by kernel_rfl) (by kernel_rfl) (fun _ _ _ h => h) (Or.inl ⟨by kernel_rfl, ?y68⟩) (by assumption) ?_
  case y68 => (intro w' hSw; (try dsimp only at hSw); go_simp; try with_reducible rfl)
  try simp only [Act.put, List.setIfInBounds_toArray, List.set_cons_zero, List.set_cons_succ]
  refine wpAnyH_take_d (i := 19) (d := some 103) (v := ?v69) rfl rfl (by kernel_rfl) (by kernel_rfl) (by kernel_rfl) (fun _ _ _ h => h) (Or.inl ⟨by kernel_rfl, ?y69⟩) (by assumption) ?_
  case y69 => (intro w' hSw; (try dsimp only at hSw); go_simp; try with_reducible rfl)
  try simp only [Act.put, List.setIfInBounds_toArray, List.set_cons_zero, List.set_cons_succ]
  refine wpAnyH_take_d (i := 20) (d := some 104) (v := ?v70) rfl rfl (by kernel_rfl) (by kernel_rfl) (by kernel_rfl) (fun _ _ _ h => h) (Or.inl ⟨by kernel_rfl, ?y70⟩) (by assumption) ?_
  case y70 => (intro w' hSw; (try dsimp only at hSw); go_simp; try with_reducible rfl)
  try simp only [Act.put, List.setIfInBounds_toArray, List.set_cons_zero, List.set_cons_succ]
  refine wpAnyH_take_d (i := 21) (d := some 105) (v := ?v71) rfl rfl (by kernel_rfl) (by kernel_rfl) (by kernel_rfl) (fun _ _ _ h => h) (Or.inl ⟨by kernel_rfl, ?y71⟩) (by assumption) ?_
  case y71 => (intro w' hSw; (try dsimp only at hSw); go_simp; try with_reducible rfl)
  try simp only [Act.put, List.setIfInBounds_toArray, List.set_cons_zero, List.set_cons_succ]
  refine wpAnyH_take_d (i := 22) (d := some 106) (v := ?v72) rfl rfl (by kernel_rfl) (by kernel_rfl) (by kernel_rfl) (fun _ _ _ h => h) (Or.inl ⟨by kernel_rfl, ?y72⟩) (by assumption) ?_
  case y72 => (intro w' hSw; (try dsimp only at hSw); go_simp; try with_reducible rfl)
  try simp only [Act.put, List.setIfInBounds_toArray, List.set_cons_zero, List.set_cons_succ]
  refine wpAnyH_take_d (i := 23) (d := some 107) (v := ?v73) rfl rfl (by kernel_rfl) (by kernel_rfl) (by kernel_rfl) (fun _ _ _ h => h) (Or.inl ⟨by kernel_rfl, ?y73⟩) (by assumption) ?_
  case y73 => (intro w' hSw; (try dsimp only at hSw); go_simp; try with_reducible rfl)
  try simp only [Act.put, List.setIfInBounds_toArray, List.set_cons_zero, List.set_cons_succ]
  refine wpAnyH_take_d (i := 24) (d := some 108) (v := ?v74) rfl rfl (by kernel_rfl) (by kernel_rfl) (by kernel_rfl) (fun _ _ _ h => h) (Or.inl ⟨by kernel_rfl, ?y74⟩) (by assumption) ?_
  case y74 => (intro w' hSw; (try dsimp only at hSw); go_simp; try with_reducible rfl)
  try simp only [Act.put, List.setIfInBounds_toArray, List.set_cons_zero, List.set_cons_succ]
  refine wpAnyH_take_d (i := 25) (d := some 109) (v := ?v75) rfl rfl (by kernel_rfl) (by kernel_rfl) (by kernel_rfl) (fun _ _ _ h => h) (Or.inl ⟨by kernel_rfl, ?y75⟩) (by assumption) ?_
  case y75 => (intro w' hSw; (try dsimp only at hSw); go_simp; try with_reducible rfl)
  try simp only [Act.put, List.setIfInBounds_toArray, List.set_cons_zero, List.set_cons_succ]
  refine wpAnyH_take_d (i := 26) (d := some 110) (v := ?v76) rfl rfl (by kernel_rfl) (by kernel_rfl) (by kernel_rfl) (fun _ _ _ h => h) (Or.inl ⟨by kernel_rfl, ?y76⟩) (by assumption) ?_
  case y76 => (intro w' hSw; (try dsimp only at hSw); go_simp; try with_reducible rfl)
  try simp only [Act.put, List.setIfInBounds_toArray, List.set_cons_zero, List.set_cons_succ]
  have hS2 : (w10.drew.alloc (.cells #[.int .i64 r0, .int .i64 r1, .int .i64 r2, .int .i64 r3] 40)).cell? ⟨ga, 0, none⟩ = some (.int .i64 (x0 : Int)) ∧ (w10.drew.alloc (.cells #[.int .i64 r0, .int .i64 r1, .int .i64 r2, .int .i64 r3] 40)).cell? ⟨ga, 1, none⟩ = some (.int .i64 (x1 : Int)) ∧ (w10.drew.alloc (.cells #[.int .i64 r0, .int .i64 r1, .int .i64 r2, .int .i64 r3] 40)).cell? ⟨gb, 0, none⟩ = some (.int .i64 (y0 : Int)) ∧ (w10.drew.alloc (.cells #[.int .i64 r0, .int .i64 r1, .int .i64 r2, .int .i64 r3] 40)).cell? ⟨gb, 1, none⟩ = some (.int .i64 (y1 : Int)) ∧ (w10.drew.alloc (.cells #[.int .i64 r0, .int .i64 r1, .int .i64 r2, .int .i64 r3] 40)).cell? ⟨gi, x0, none⟩ = some (.int .i64 r0) ∧ (w10.drew.alloc (.cells #[.int .i64 r0, .int .i64 r1, .int .i64 r2, .int .i64 r3] 40)).cell? ⟨gi, x1, none⟩ = some (.int .i64 r1) ∧ (w10.drew.alloc (.cells #[.int .i64 r0, .int .i64 r1, .int .i64 r2, .int .i64 r3] 40)).cell? ⟨gi, y0, none⟩ = some (.int .i64 r2) ∧ (w10.drew.alloc (.cells #[.int .i64 r0, .int .i64 r1, .int .i64 r2, .int .i64 r3] 40)).cell? ⟨gi, y1, none⟩ = some (.int .i64 r3) := ⟨((bcell hB3).1 _ _ q1).trans a0, ((bcell hB3).1 _ _ q1).trans a1, ((bcell hB3).1 _ _ q2).trans b0, ((bcell hB3).1 _ _ q2).trans b1, ((bcell hB3).1 _ _ q3).trans d0, ((bcell hB3).1 _ _ q3).trans d1, ((bcell hB3).1 _ _ q3).trans d2, ((bcell hB3).1 _ _ q3).trans d3⟩
  refine wpAnyH_ready (rs := [27]) (by kernel_rfl) (by simp) ?_
  refine AllReadyH.cons rfl (fun K hK => ?_) AllReadyH.nil
  go_simp
  refine hK.out _ _ ?s77 (fun hHeld77 => ?_)
  case s77 => ((try dsimp only); (first | exact hS3 | exact hS2 | exact ⟨a0, a1, b0, b1, d0, d1, d2, d3⟩ | assumption | (first | go_keep | (obtain ⟨hq, _⟩ := bcell ‹Below _ _ _›; (repeat' apply And.intro) <;> (rw [hq _ _ (by first | assumption | omega | (simp; done) | (simp; omega) | (simp; assumption))] <;> (first | assumption | (simp [*]; done)))))))
  clear hK K hHeld
  have hHeld := hHeld77; clear hHeld77
  try simp only [Act.put, List.setIfInBounds_toArray, List.set_cons_zero, List.set_cons_succ]
  refine wpAnyH_ready (rs := [28]) (by kernel_rfl) (by simp) ?_
  refine AllReadyH.cons rfl (fun K hK => ?_) AllReadyH.nil
  refine wp_appendE rfl w.heap.size _ K0 P0 rfl hown2 w10.heap.size 0 2 2 [(r0, r1), (r2, r3)] rfl rfl hnew (by have := HKb.out; omega) (by omega) (by simp; omega) ?_
  intro v' w3 hown3 hfr hgr
  have b31 := hfr w.heap.size w (Nat.le_refl _) hb9
  have hA3 := own_same (own_below HA10.out hB3) fun t cs ht hB => hB.grown' hown2 hgr (by rw [ht]; decide)
  have hB33 := own_same (own_below HB10.out hB3) fun t cs ht hB => hB.grown' hown2 hgr (by rw [ht]; decide)
  have hI3 := own_same (own_below HI10.out hB3) fun t cs ht hB => hB.grown' hown2 hgr (by rw [ht]; decide)
  have hS3 : w3.cell? ⟨ga, 0, none⟩ = some (.int .i64 (x0 : Int)) ∧ w3.cell? ⟨ga, 1, none⟩ = some (.int .i64 (x1 : Int)) ∧ w3.cell? ⟨gb, 0, none⟩ = some (.int .i64 (y0 : Int)) ∧ w3.cell? ⟨gb, 1, none⟩ = some (.int .i64 (y1 : Int)) ∧ w3.cell? ⟨gi, x0, none⟩ = some (.int .i64 r0) ∧ w3.cell? ⟨gi, x1, none⟩ = some (.int .i64 r1) ∧ w3.cell? ⟨gi, y0, none⟩ = some (.int .i64 r2) ∧ w3.cell? ⟨gi, y1, none⟩ = some (.int .i64 r3) := ⟨own_cellI hA3 rfl (by decide), own_cellI hA3 rfl (by decide), own_cellI hB33 rfl (by decide), own_cellI hB33 rfl (by decide), (by have h := own_cellI hI3 HXl.out HxN.out.1.1; rw [Hn0.out] at h; exact h), (by have h := own_cellI hI3 HXl.out HxN.out.1.2; rw [Hn1.out] at h; exact h), (by have h := own_cellI hI3 HXl.out HxN.out.2.1; rw [Hn2.out] at h; exact h), (by have h := own_cellI hI3 HXl.out HxN.out.2.2; rw [Hn3.out] at h; exact h)⟩
  refine hK.out _ _ ?s78 (fun hHeld78 => ?_)
  case s78 => ((try dsimp only); (first | exact hS3 | exact hS2 | exact ⟨a0, a1, b0, b1, d0, d1, d2, d3⟩ | assumption | (first | go_keep | (obtain ⟨hq, _⟩ := bcell ‹Below _ _ _›; (repeat' apply And.intro) <;> (rw [hq _ _ (by first | assumption | omega | (simp; done) | (simp; omega) | (simp; assumption))] <;> (first | assumption | (simp [*]; done)))))))
  clear hK K hHeld
  have hHeld := hHeld78; clear hHeld78
  try simp only [Act.put, List.setIfInBounds_toArray, List.set_cons_zero, List.set_cons_succ]
  refine wpAnyH_take_d (i := 29) (d := some 13) (v := ?v79) rfl rfl (by kernel_rfl) (by kernel_rfl) (by kernel_rfl) (fun _ _ _ h => h) (Or.inl ⟨by kernel_rfl, ?y79⟩) (by assumption) ?_
  case y79 => (intro w' hSw; (try dsimp only at hSw); go_simp; try with_reducible rfl)
  try simp only [Act.put, List.setIfInBounds_toArray, List.set_cons_zero, List.set_cons_succ]
  refine wpAnyH_done (by kernel_rfl) ?_ _
  refine NoPanic.normal ?_
  have HG := Lib.hid ((HG10.out.below hB3 (by omega)).grown' hown2 hgr (by decide))
  have HZ := Lib.hid ((HZ10.out.below hB3 HZ10.out.lt).grown' hown2 hgr (by decide))
  have Hbel := Lib.hid b31
  obtain ⟨A7, c7, rfl⟩ := own_form hown3
  have HE : Hid (w3.ownsRow w.heap.size 40 2 (.slice A7 (K0 + 2) c7) (K0 + 2) (cE P2)) := by
    show World.ownsRow _ _ _ _ _ _ _
    rw [HL2.out]
    exact hown3
  clear hHeld hS2 hS3 hA3 hB33 hI3 hown3 hfr hgr hown2 hnew hB3 b31 hb9 a0 a1 b0 b1 d0 d1 d2 d3 HA10 HB10 HI10 HE10 HG10 HZ10 Hb10 k0 k1 q1 q2 q3
  have cm := cm.out A7 c7 w3 (own_rdE HE.out)
  rw [hP2l.out] at cm
  have k0 := HG.out.cellAt 0 _ rfl
  have zz := HZ.out.lt
  go_wp2_with fail
  refine cm.mono ?_
  rintro e w4 ⟨A3, c3, rfl, hF, hb4⟩
  have HZ4 := Lib.hid (HZ.out.below hb4 HZ.out.lt)
  have x0 := HZ4.out.cellAt 0 _ rfl
  have x1 : (w4.setCell ⟨w.heap.size + 1, 0, none⟩ (.int .i64 ((N : Int) - 2))).cell? ⟨w.heap.size + 1, 1, none⟩ = some (.slice none 0 0) := (sc_other (by simp)).trans (HZ4.out.cellAt 1 _ rfl)
  have f0 := HZ4.out.frozen 0
  have f1 := HZ4.out.frozen 1
  have HF := Lib.hid hF
  have Hb4 : Hid (Below w.heap.size w w4) := Hbel.out.trans (hb4.mono (by omega))
  clear hF hb4 cm HG HZ Hbel k0
  go_wp2
  refine ret_cell_tmp Tryz.results6 Tryz.underlying28 rfl (by kernel_rfl) rfl ((HZ4.out.set_ 0 (.int .i64 ((N : Int) - 2))).set_ 1 (.slice A3 (K0 + 2) c3)) rfl rfl ⟨⟨A3, c3, ?_, FrE.mono (n0 := w3.heap.size) ?_ (by omega)⟩, (Hb4.out.setCell (by show w.heap.size ≤ w.heap.size + 1; omega) _).setCell (by show w.heap.size ≤ w.heap.size + 1; omega) _⟩
  · rw [madeE_len, hP2l.out]; rfl
  · exact HF.out.away (((Only.refl _ _).set 0 _).set 1 _ : Only (some ⟨w.heap.size + 1, 0, none⟩) w4 _) zz
end Go.Proofs.YtjgmoffkecnmcaaGreat
