/- impl.CutEdge: the graph. No statement of the program is proved here. -/
import Derived.Test.YtjgmoffkecnmcaaGreatCe2
namespace Go.Proofs.YtjgmoffkecnmcaaGreat
open Go.RowKit
set_option linter.unusedSimpArgs false
set_option linter.unusedVariables false
set_option maxRecDepth 20000

set_option maxHeartbeats 16000000 in
/-- The graph. -/
theorem implCut_yes (n : Int) (A : Option Addr) (c : Nat) (es : List (Int × Int)) (k u v : Nat) (w : World) (N : Nat) (hl : es.length ≤ 1000) (hN : N ≤ 60) (hn : 2 ≤ n ∧ n ≤ 60) (hin : InN N es) (hr : RdE w A es) (hk : k < es.length) (hxy : es.getD k (0, 0) = ((u : Int), (v : Int))) (huv : u < 60 ∧ v < 60) (hq : Hid (isGraphB n es = true)) (he : Hid (inB (k : Int) 0 ((es.length : Int) - 1) = true)) (hj : joinN es u v = 1) (x0 x1 y0 y1 : Nat) (hUA : upI (butL es u v) = [(x0 : Int), (x1 : Int)]) (hUB : upI (butL es v u) = [(y0 : Int), (y1 : Int)]) (h1 : x0 ≠ x1) (h2 : y0 ≠ y1) (h60 : (x0 < 60 ∧ x1 < 60) ∧ (y0 < 60 ∧ y1 < 60)) :
    Calls Tryz.prog 8 #[.agg #[.int .i64 n, .slice A es.length c], .int .i64 (k : Int)] w fun e w' => RetG w' w.heap.size e (n - 2) (madeE (cutL (setN [(u : Int), (v : Int)]) es [(x0 : Int), (x1 : Int)] [(y0 : Int), (y1 : Int)])) 0 ∧ Below w.heap.size w w' := by
  obtain ⟨bA, oA, rfl, hbA, hcA'⟩ := hr.pos (by omega)
  have hcA := hcA' k hk
  have ce := fun W => isEdge_b n (some ⟨bA, oA, none⟩) es.length c (k : Int) W true he (by omega)
  have cg := fun W (hW : Below w.heap.size w W) => graphCode_b n (some ⟨bA, oA, none⟩) c es W true true hq (by omega) (hr.below hW)
  rw [show gcode true true = 0 from rfl] at cg
  have C1 := Lib.hid fun W (hW : Below w.heap.size w W) => joins_b n (some ⟨bA, oA, none⟩) c es N u v W (by omega) (by omega) hin (by omega) (hr.below hW)
  have hlU : (upI (butL es u v)).length = 2 := by rw [hUA]; rfl
  have hlV : (upI (butL es v u)).length = 2 := by rw [hUB]; rfl
  rw [upI_len] at hlU hlV
  have c2 := fun W (hW : Below w.heap.size w W) => othersAt_b n (some ⟨bA, oA, none⟩) c es N u v W hl (by omega) hin (by omega) (by have := hlU; unfold butL at this; have h9 := List.length_filter_le (fun x : Int => !decide (x = (v : Int))) (endsL es u); omega) (by omega) (hr.below hW)
  have c3 := fun W (hW : Below w.heap.size w W) => othersAt_b n (some ⟨bA, oA, none⟩) c es N v u W hl (by omega) hin (by omega) (by have := hlV; unfold butL at this; have h9 := List.length_filter_le (fun x : Int => !decide (x = (u : Int))) (endsL es v); omega) (by omega) (hr.below hW)
  rw [hlU, hUA] at c2
  rw [hlV, hUB] at c3
  have C2 := Lib.hid c2
  have C3 := Lib.hid c3
  obtain ⟨j, Hj⟩ : ∃ j : Nat, Hid (joinN es u v = j) := ⟨_, rfl⟩
  rw [Hj.out] at hj C1
  have g2 : ((j : Int) != 1) = false := by simp; omega
  have h63 : ∀ x ∈ [(u : Int), (v : Int)], 0 ≤ x ∧ x < (63 : Nat) := by simp; omega
  have cs := Lib.hid fun (W : World) Q hQ => setOf_b Q 2 [(u : Int), (v : Int)] W (by simp) h63 hQ
  have hT63 : setN [(u : Int), (v : Int)] < 2 ^ 63 := setN_lt h63
  have HT63 := Lib.hid hT63
  have cw := fun W (hW : Below w.heap.size w W) => without_own n (some ⟨bA, oA, none⟩) c es N (setN [(u : Int), (v : Int)]) 0 W hl hN hT63 (by omega) hin (hr.below hW)
  have hWl := woL_len (setN [(u : Int), (v : Int)]) 0 es
  have cm := Lib.hid fun Q cc (W : World) hQ => graphOf_b (n - 2) Q cc (cutL (setN [(u : Int), (v : Int)]) es [(x0 : Int), (x1 : Int)] [(y0 : Int), (y1 : Int)]) W (by rw [cutL_len]; omega) (by rw [cutL_len]; omega) hQ
  have g3 : ((x0 : Int) == (x1 : Int)) = false := by simp; omega
  have g4 : ((y0 : Int) == (y1 : Int)) = false := by simp; omega
  have p1 : wrap64 (n - 2) = n - 2 := wrap64_small (by omega) (by omega)
  have H60 := Lib.hid h60
  have HL2 : Hid (cutL (setN [(u : Int), (v : Int)]) es [(x0 : Int), (x1 : Int)] [(y0 : Int), (y1 : Int)] = (woL (setN [(u : Int), (v : Int)]) 0 es ++ [(frV (setN [(u : Int), (v : Int)]) 0 x0, frV (setN [(u : Int), (v : Int)]) 0 x1)]) ++ [(frV (setN [(u : Int), (v : Int)]) 0 y0, frV (setN [(u : Int), (v : Int)]) 0 y1)]) := by
    show _ = _
    rw [List.append_assoc]
    rfl
  obtain ⟨T, HT⟩ : ∃ T, Hid (setN [(u : Int), (v : Int)] = T) := ⟨_, rfl⟩
  rw [HT.out] at HT63 cm HL2 hWl
  simp only [HT.out] at cs cw ⊢
  obtain ⟨P0, HP0⟩ : ∃ P, Hid (woL T 0 es = P) := ⟨_, rfl⟩
  rw [HP0.out] at HL2 hWl
  simp only [HP0.out] at cw
  obtain ⟨K0, HK0⟩ : ∃ P, Hid (P0.length = P) := ⟨_, rfl⟩
  rw [HK0.out] at hWl
  simp only [HK0.out] at cw
  obtain ⟨P2, HP2⟩ : ∃ P, Hid (cutL T es [(x0 : Int), (x1 : Int)] [(y0 : Int), (y1 : Int)] = P) := ⟨_, rfl⟩
  rw [HP2.out] at cm HL2 ⊢
  have HKb : Hid (K0 ≤ 1000) := by show _ ≤ _; omega
  have hP2l : Hid (P2.length = K0 + 2) := by show _ = _; rw [HL2.out, List.length_append, List.length_append, HK0.out]; rfl
  obtain ⟨L, HL⟩ : ∃ L, Hid (es.length = L) := ⟨_, rfl⟩
  rw [HL.out] at ce cg C1 C2 C3 cw hk hl ⊢
  have CW := Lib.hid cw
  obtain ⟨ek, ek2, ek3⟩ := idxF k L hk
  clear c2 c3 hr hq he hin hn hj Hj hcA' hN huv hUA hUB hlU hlV h1 h2 h60 h63 hT63 cw hWl HT HP2
  go_enter Tryz.func8, Tryz.ntmps8
  go_wp2
  refine wp_region_noPanic ?_
  refine wp_region_held_drew (S := (fun w' => w'.cell? ⟨w.heap.size, 0, none⟩ = some (.int .i64 n) ∧ w'.cell? ⟨w.heap.size, 1, none⟩ = some (.slice (some ⟨bA, oA, none⟩) L c))) (by kernel_rfl) ?_ (fun hHeld => ?_)
  · (try dsimp only); (first | go_keep | (obtain ⟨hq, _⟩ := bcell ‹Below _ _ _›; (repeat' apply And.intro) <;> (rw [hq _ _ (by first | assumption | omega | (simp; done) | (simp; omega) | (simp; assumption))] <;> (first | assumption | (simp [*]; done)))))
  refine wpAnyH_take_d (i := 0) (d := some 15) (v := ?v1) rfl rfl (by kernel_rfl) (by kernel_rfl) (by kernel_rfl) (fun _ _ _ h => h) (Or.inl ⟨by kernel_rfl, ?y1⟩) (by assumption) ?_
  case y1 => (intro w' hSw; (try dsimp only at hSw); go_simp; try with_reducible rfl)
  try simp only [Act.put, List.setIfInBounds_toArray, List.set_cons_zero, List.set_cons_succ]
  refine wpAnyH_take_d (i := 1) (d := some 16) (v := ?v2) rfl rfl (by kernel_rfl) (by kernel_rfl) (by kernel_rfl) (fun _ _ _ h => h) (Or.inl ⟨by kernel_rfl, ?y2⟩) (by assumption) ?_
  case y2 => (intro w' hSw; (try dsimp only at hSw); go_simp; try with_reducible rfl)
  try simp only [Act.put, List.setIfInBounds_toArray, List.set_cons_zero, List.set_cons_succ]
  refine wpAnyH_take_d (i := 2) (d := some 17) (v := ?v3) rfl rfl (by kernel_rfl) (by kernel_rfl) (by kernel_rfl) (fun _ _ _ h => h) (Or.inl ⟨by kernel_rfl, ?y3⟩) (by assumption) ?_
  case y3 => (intro w' hSw; (try dsimp only at hSw); go_simp; try with_reducible rfl)
  try simp only [Act.put, List.setIfInBounds_toArray, List.set_cons_zero, List.set_cons_succ]
  refine wpAnyH_ready (rs := [3]) (by kernel_rfl) (by simp) ?_
  refine AllReadyH.cons rfl (fun K hK => ?_) AllReadyH.nil
  go_simp
  refine (ce _).mono ?_; rintro e w1 ⟨rfl, hb1⟩; have z1 := hb1.size; (try simp only [World.size_alloc, World.size_setCell, World.size_drew] at z1)
  refine hK.out _ _ ?s4 (fun hHeld4 => ?_)
  case s4 => ((try dsimp only); (first | go_keep | (obtain ⟨hq, _⟩ := bcell ‹Below _ _ _›; (repeat' apply And.intro) <;> (rw [hq _ _ (by first | assumption | omega | (simp; done) | (simp; omega) | (simp; assumption))] <;> (first | assumption | (simp [*]; done))))))
  clear hK K hHeld
  have hHeld := hHeld4; clear hHeld4
  try simp only [Act.put, List.setIfInBounds_toArray, List.set_cons_zero, List.set_cons_succ]
  refine wpAnyH_ready (rs := [4]) (by kernel_rfl) (by simp) ?_
  refine AllReadyH.cons rfl (fun K hK => ?_) AllReadyH.nil
  go_simp
  refine (cg _ (by (repeat' (first | (with_reducible exact Below.refl _ _) | (with_reducible assumption) | (with_reducible refine Below.alloc ?_ ?_ _) | (with_reducible refine Below.drew ?_) | (with_reducible refine below_drewN ?_ _) | (with_reducible refine Below.setCell ?_ ?_ _) | (with_reducible refine Below.trans ?_ (Below.mono (by assumption) ?_)) | (first | omega | (simp only [World.size_alloc, World.size_setCell, World.size_drew]; omega) | (simp; omega) | (simp; done)))))).mono ?_; rintro e w4 ⟨rfl, hb4⟩; have z4 := hb4.size; (try simp only [World.size_alloc, World.size_setCell, World.size_drew] at z4)
  refine hK.out _ _ ?s5 (fun hHeld5 => ?_)
  case s5 => ((try dsimp only); (first | go_keep | (obtain ⟨hq, _⟩ := bcell ‹Below _ _ _›; (repeat' apply And.intro) <;> (rw [hq _ _ (by first | assumption | omega | (simp; done) | (simp; omega) | (simp; assumption))] <;> (first | assumption | (simp [*]; done))))))
  clear hK K hHeld
  have hHeld := hHeld5; clear hHeld5
  try simp only [Act.put, List.setIfInBounds_toArray, List.set_cons_zero, List.set_cons_succ]
  refine wpAnyH_take_d (i := 5) (d := some 6) (v := ?v6) rfl rfl (by kernel_rfl) (by kernel_rfl) (by kernel_rfl) (fun _ _ _ h => h) (Or.inl ⟨by kernel_rfl, ?y6⟩) (by assumption) ?_
  case y6 => (intro w' hSw; (try dsimp only at hSw); go_simp; try with_reducible rfl)
  try simp only [Act.put, List.setIfInBounds_toArray, List.set_cons_zero, List.set_cons_succ]
  refine wpAnyH_done (by kernel_rfl) ?_ _
  refine NoPanic.normal ?_
  clear hHeld
  have b4 : Below ((w.alloc (.cells #[.int .i64 n, .slice (some ⟨bA, oA, none⟩) L c] 28)).alloc (.cells #[.int .i64 0, .slice none 0 0] 28)).heap.size ((w.alloc (.cells #[.int .i64 n, .slice (some ⟨bA, oA, none⟩) L c] 28)).alloc (.cells #[.int .i64 0, .slice none 0 0] 28)) w4 := by (repeat' (first | (with_reducible exact Below.refl _ _) | (with_reducible assumption) | (with_reducible refine Below.alloc ?_ ?_ _) | (with_reducible refine Below.drew ?_) | (with_reducible refine below_drewN ?_ _) | (with_reducible refine Below.setCell ?_ ?_ _) | (with_reducible refine Below.trans ?_ (Below.mono (by assumption) ?_)) | (first | omega | (simp only [World.size_alloc, World.size_setCell, World.size_drew]; omega) | (simp; omega) | (simp; done))))
  have HG4 := Lib.hid (((Blk.new w _ _).alloc _).below b4 (by simp <;> omega) : Blk w4 w.heap.size 28 #[.int .i64 n, .slice (some ⟨bA, oA, none⟩) L c])
  have HZ4 := Lib.hid ((Blk.new' (n := w.heap.size + 1) _ (by simp)).below b4 (by simp) : Blk w4 (w.heap.size + 1) 28 #[.int .i64 0, .slice none 0 0])
  have Hb4 : Hid (Below w.heap.size w w4) := by show Below _ _ _; exact Below.trans (b := ((w.alloc (.cells #[.int .i64 n, .slice (some ⟨bA, oA, none⟩) L c] 28)).alloc (.cells #[.int .i64 0, .slice none 0 0] 28))) (by (repeat' (first | (with_reducible exact Below.refl _ _) | (with_reducible assumption) | (with_reducible refine Below.alloc ?_ ?_ _) | (with_reducible refine Below.drew ?_) | (with_reducible refine below_drewN ?_ _) | (with_reducible refine Below.setCell ?_ ?_ _) | (with_reducible refine Below.trans ?_ (Below.mono (by assumption) ?_)) | (first | omega | (simp only [World.size_alloc, World.size_setCell, World.size_drew]; omega) | (simp; omega) | (simp; done))))) (b4.mono (by simp; omega))
  clear b4
  have k0 := HG4.out.cellAt 0 _ rfl
  have k1 := HG4.out.cellAt 1 _ rfl
  have z9 := HZ4.out.lt
  have e0 := ((bcell Hb4.out).1 bA (oA + k * 2) hbA).trans hcA.1
  have e1 := ((bcell Hb4.out).1 bA (oA + k * 2 + 1) hbA).trans hcA.2
  rw [hxy] at e0 e1
  dsimp only at e0 e1
  go_wp2
  refine wp_region_noPanic ?_
  refine wp_region_held_drew (S := (fun w' => w'.cell? ⟨w.heap.size, 0, none⟩ = some (.int .i64 n) ∧ w'.cell? ⟨w.heap.size, 1, none⟩ = some (.slice (some ⟨bA, oA, none⟩) L c) ∧ w'.cell? ⟨bA, oA + k * 2, none⟩ = some (.int .i64 u) ∧ w'.cell? ⟨bA, oA + k * 2 + 1, none⟩ = some (.int .i64 v))) (by kernel_rfl) ?_ (fun hHeld => ?_)
  · (try dsimp only); (first | exact ⟨k0, k1, e0, e1⟩ | assumption | (first | go_keep | (obtain ⟨hq, _⟩ := bcell ‹Below _ _ _›; (repeat' apply And.intro) <;> (rw [hq _ _ (by first | assumption | omega | (simp; done) | (simp; omega) | (simp; assumption))] <;> (first | assumption | (simp [*]; done))))))
  refine wpAnyH_take_d (i := 0) (d := some 24) (v := ?v7) rfl rfl (by kernel_rfl) (by kernel_rfl) (by kernel_rfl) (fun _ _ _ h => h) (Or.inl ⟨by kernel_rfl, ?y7⟩) (by assumption) ?_
  case y7 => (intro w' hSw; (try dsimp only at hSw); go_simp; try with_reducible rfl)
  try simp only [Act.put, List.setIfInBounds_toArray, List.set_cons_zero, List.set_cons_succ]
  refine wpAnyH_take_d (i := 1) (d := some 25) (v := ?v8) rfl rfl (by kernel_rfl) (by kernel_rfl) (by kernel_rfl) (fun _ _ _ h => h) (Or.inl ⟨by kernel_rfl, ?y8⟩) (by assumption) ?_
  case y8 => (intro w' hSw; (try dsimp only at hSw); go_simp; try with_reducible rfl)
  try simp only [Act.put, List.setIfInBounds_toArray, List.set_cons_zero, List.set_cons_succ]
  refine wpAnyH_take_d (i := 2) (d := some 26) (v := ?v9) rfl rfl (by kernel_rfl) (by kernel_rfl) (by kernel_rfl) (fun _ _ _ h => h) (Or.inl ⟨by kernel_rfl, ?y9⟩) (by assumption) ?_
  case y9 => (intro w' hSw; (try dsimp only at hSw); go_simp; try with_reducible rfl)
  try simp only [Act.put, List.setIfInBounds_toArray, List.set_cons_zero, List.set_cons_succ]
  refine wpAnyH_take_d (i := 3) (d := some 27) (v := ?v10) rfl rfl (by kernel_rfl) (by kernel_rfl) (by kernel_rfl) (fun _ _ _ h => h) (Or.inl ⟨by kernel_rfl, ?y10⟩) (by assumption) ?_
  case y10 => (intro w' hSw; (try dsimp only at hSw); go_simp; try with_reducible rfl)
  try simp only [Act.put, List.setIfInBounds_toArray, List.set_cons_zero, List.set_cons_succ]
  refine wpAnyH_take_d (i := 4) (d := some 28) (v := ?v11) rfl rfl (by kernel_rfl) (by kernel_rfl) (by kernel_rfl) (fun _ _ _ h => h) (Or.inl ⟨by kernel_rfl, ?y11⟩) (by assumption) ?_
  case y11 => (intro w' hSw; (try dsimp only at hSw); go_simp; try with_reducible rfl)
  try simp only [Act.put, List.setIfInBounds_toArray, List.set_cons_zero, List.set_cons_succ]
  refine wpAnyH_take_d (i := 5) (d := some 29) (v := ?v12) rfl rfl (by kernel_rfl) (by kernel_rfl) (by kernel_rfl) (fun _ _ _ h => h) (Or.inl ⟨by kernel_rfl, ?y12⟩) (by assumption) ?_
  case y12 => (intro w' hSw; (try dsimp only at hSw); go_simp; try with_reducible rfl)
  try simp only [Act.put, List.setIfInBounds_toArray, List.set_cons_zero, List.set_cons_succ]
  refine wpAnyH_take_d (i := 6) (d := some 30) (v := ?v13) rfl rfl (by kernel_rfl) (by kernel_rfl) (by kernel_rfl) (fun _ _ _ h => h) (Or.inl ⟨by kernel_rfl, ?y13⟩) (by assumption) ?_
  case y13 => (intro w' hSw; (try dsimp only at hSw); go_simp; try with_reducible rfl)
  try simp only [Act.put, List.setIfInBounds_toArray, List.set_cons_zero, List.set_cons_succ]
  refine wpAnyH_take_d (i := 7) (d := some 31) (v := ?v14) rfl rfl (by kernel_rfl) (by kernel_rfl) (by kernel_rfl) (fun _ _ _ h => h) (Or.inl ⟨by kernel_rfl, ?y14⟩) (by assumption) ?_
  case y14 => (intro w' hSw; (try dsimp only at hSw); go_simp; try with_reducible rfl)
  try simp only [Act.put, List.setIfInBounds_toArray, List.set_cons_zero, List.set_cons_succ]
  refine wpAnyH_take_d (i := 8) (d := some 32) (v := ?v15) rfl rfl (by kernel_rfl) (by kernel_rfl) (by kernel_rfl) (fun _ _ _ h => h) (Or.inl ⟨by kernel_rfl, ?y15⟩) (by assumption) ?_
  case y15 => (intro w' hSw; (try dsimp only at hSw); go_simp; try with_reducible rfl)
  try simp only [Act.put, List.setIfInBounds_toArray, List.set_cons_zero, List.set_cons_succ]
  refine wpAnyH_take_d (i := 9) (d := some 33) (v := ?v16) rfl rfl (by kernel_rfl) (by kernel_rfl) (by kernel_rfl) (fun _ _ _ h => h) (Or.inl ⟨by kernel_rfl, ?y16⟩) (by assumption) ?_
  case y16 => (intro w' hSw; (try dsimp only at hSw); go_simp; try with_reducible rfl)
  try simp only [Act.put, List.setIfInBounds_toArray, List.set_cons_zero, List.set_cons_succ]
  refine wpAnyH_take_d (i := 10) (d := some 34) (v := ?v17) rfl rfl (by kernel_rfl) (by kernel_rfl) (by kernel_rfl) (fun _ _ _ h => h) (Or.inl ⟨by kernel_rfl, ?y17⟩) (by assumption) ?_
  case y17 => (intro w' hSw; (try dsimp only at hSw); go_simp; try with_reducible rfl)
  try simp only [Act.put, List.setIfInBounds_toArray, List.set_cons_zero, List.set_cons_succ]
  refine wpAnyH_take_d (i := 11) (d := some 35) (v := ?v18) rfl rfl (by kernel_rfl) (by kernel_rfl) (by kernel_rfl) (fun _ _ _ h => h) (Or.inl ⟨by kernel_rfl, ?y18⟩) (by assumption) ?_
  case y18 => (intro w' hSw; (try dsimp only at hSw); go_simp; try with_reducible rfl)
  try simp only [Act.put, List.setIfInBounds_toArray, List.set_cons_zero, List.set_cons_succ]
  refine wpAnyH_take_d (i := 12) (d := some 7) (v := ?v19) rfl rfl (by kernel_rfl) (by kernel_rfl) (by kernel_rfl) (fun _ _ _ h => h) (Or.inl ⟨by kernel_rfl, ?y19⟩) (by assumption) ?_
  case y19 => (intro w' hSw; (try dsimp only at hSw); go_simp; try with_reducible rfl)
  try simp only [Act.put, List.setIfInBounds_toArray, List.set_cons_zero, List.set_cons_succ]
  refine wpAnyH_take_d (i := 13) (d := some 8) (v := ?v20) rfl rfl (by kernel_rfl) (by kernel_rfl) (by kernel_rfl) (fun _ _ _ h => h) (Or.inl ⟨by kernel_rfl, ?y20⟩) (by assumption) ?_
  case y20 => (intro w' hSw; (try dsimp only at hSw); go_simp; try with_reducible rfl)
  try simp only [Act.put, List.setIfInBounds_toArray, List.set_cons_zero, List.set_cons_succ]
  refine wpAnyH_done (by kernel_rfl) ?_ _
  refine NoPanic.normal ?_
  clear hHeld e0 e1
  obtain ⟨w5, hw5⟩ : ∃ x, x = w4.drew := ⟨_, rfl⟩
  have hb5 : Below w4.heap.size w4 w5 := by rw [hw5]; exact Below.drew (Below.refl _ _)
  rw [← hw5]
  clear hw5
  have HG5 := Lib.hid (HG4.out.below hb5 (by have := HZ4.out.lt; omega))
  have HZ5 := Lib.hid (HZ4.out.below hb5 HZ4.out.lt)
  have Hb5 : Hid (Below w.heap.size w w5) := Hb4.out.trans (hb5.mono (by have := HZ4.out.lt; omega))
  clear k0 k1 z9 HG4 HZ4 Hb4
  have k0 := HG5.out.cellAt 0 _ rfl
  have k1 := HG5.out.cellAt 1 _ rfl
  have z9 := HZ5.out.lt
  clear hb5
  go_wp2_with fail
  refine (C1.out w5 Hb5.out).mono ?_
  rintro e w6 ⟨rfl, hb6⟩
  have HG6 := Lib.hid (HG5.out.below hb6 (by have := HZ5.out.lt; omega))
  have HZ6 := Lib.hid (HZ5.out.below hb6 HZ5.out.lt)
  have Hb6 : Hid (Below w.heap.size w w6) := Hb5.out.trans (hb6.mono (by have := HZ5.out.lt; omega))
  clear k0 k1 z9 HG5 HZ5 Hb5
  have k0 := HG6.out.cellAt 0 _ rfl
  have k1 := HG6.out.cellAt 1 _ rfl
  have z9 := HZ6.out.lt
  clear hb6
  go_wp2
  refine wp_region_noPanic ?_
  refine wp_region_held_drew (S := (fun w' => w'.cell? ⟨w.heap.size, 0, none⟩ = some (.int .i64 n) ∧ w'.cell? ⟨w.heap.size, 1, none⟩ = some (.slice (some ⟨bA, oA, none⟩) L c))) (by kernel_rfl) ?_ (fun hHeld => ?_)
  · (try dsimp only); (first | exact hS3 | exact hS2 | exact ⟨k0, k1⟩ | assumption | (first | go_keep | (obtain ⟨hq, _⟩ := bcell ‹Below _ _ _›; (repeat' apply And.intro) <;> (rw [hq _ _ (by first | assumption | omega | (simp; done) | (simp; omega) | (simp; assumption))] <;> (first | assumption | (simp [*]; done))))))
  refine wpAnyH_take_d (i := 0) (d := some 42) (v := ?v21) rfl rfl (by kernel_rfl) (by kernel_rfl) (by kernel_rfl) (fun _ _ _ h => h) (Or.inl ⟨by kernel_rfl, ?y21⟩) (by assumption) ?_
  case y21 => (intro w' hSw; (try dsimp only at hSw); go_simp; try with_reducible rfl)
  try simp only [Act.put, List.setIfInBounds_toArray, List.set_cons_zero, List.set_cons_succ]
  refine wpAnyH_take_d (i := 1) (d := some 43) (v := ?v22) rfl rfl (by kernel_rfl) (by kernel_rfl) (by kernel_rfl) (fun _ _ _ h => h) (Or.inl ⟨by kernel_rfl, ?y22⟩) (by assumption) ?_
  case y22 => (intro w' hSw; (try dsimp only at hSw); go_simp; try with_reducible rfl)
  try simp only [Act.put, List.setIfInBounds_toArray, List.set_cons_zero, List.set_cons_succ]
  refine wpAnyH_take_d (i := 2) (d := some 44) (v := ?v23) rfl rfl (by kernel_rfl) (by kernel_rfl) (by kernel_rfl) (fun _ _ _ h => h) (Or.inl ⟨by kernel_rfl, ?y23⟩) (by assumption) ?_
  case y23 => (intro w' hSw; (try dsimp only at hSw); go_simp; try with_reducible rfl)
  try simp only [Act.put, List.setIfInBounds_toArray, List.set_cons_zero, List.set_cons_succ]
  refine wpAnyH_take_d (i := 4) (d := some 46) (v := ?v24) rfl rfl (by kernel_rfl) (by kernel_rfl) (by kernel_rfl) (fun _ _ _ h => h) (Or.inl ⟨by kernel_rfl, ?y24⟩) (by assumption) ?_
  case y24 => (intro w' hSw; (try dsimp only at hSw); go_simp; try with_reducible rfl)
  try simp only [Act.put, List.setIfInBounds_toArray, List.set_cons_zero, List.set_cons_succ]
  refine wpAnyH_take_d (i := 5) (d := some 47) (v := ?v25) rfl rfl (by kernel_rfl) (by kernel_rfl) (by kernel_rfl) (fun _ _ _ h => h) (Or.inl ⟨by kernel_rfl, ?y25⟩) (by assumption) ?_
  case y25 => (intro w' hSw; (try dsimp only at hSw); go_simp; try with_reducible rfl)
  try simp only [Act.put, List.setIfInBounds_toArray, List.set_cons_zero, List.set_cons_succ]
  refine wpAnyH_take_d (i := 6) (d := some 48) (v := ?v26) rfl rfl (by kernel_rfl) (by kernel_rfl) (by kernel_rfl) (fun _ _ _ h => h) (Or.inl ⟨by kernel_rfl, ?y26⟩) (by assumption) ?_
  case y26 => (intro w' hSw; (try dsimp only at hSw); go_simp; try with_reducible rfl)
  try simp only [Act.put, List.setIfInBounds_toArray, List.set_cons_zero, List.set_cons_succ]
  refine wpAnyH_ready (rs := [3]) (by kernel_rfl) (by simp) ?_
  refine AllReadyH.cons rfl (fun K hK => ?_) AllReadyH.nil
  go_simp
  refine (C2.out _ (by have := Hb6.out; (repeat' (first | (with_reducible exact Below.refl _ _) | (with_reducible assumption) | (with_reducible refine Below.alloc ?_ ?_ _) | (with_reducible refine Below.drew ?_) | (with_reducible refine below_drewN ?_ _) | (with_reducible refine Below.setCell ?_ ?_ _) | (with_reducible refine Below.trans ?_ (Below.mono (by assumption) ?_)) | (first | omega | (simp only [World.size_alloc, World.size_setCell, World.size_drew]; omega) | (simp; omega) | (simp; done)))))).mono ?_; rintro e w7 ⟨ga, ca, rfl, hown7, hb7⟩; have bb7 : Below w6.heap.size w6 w7 := (Below.drew (Below.refl _ _)).trans hb7; have hS2 : w7.cell? ⟨w.heap.size, 0, none⟩ = some (.int .i64 n) ∧ w7.cell? ⟨w.heap.size, 1, none⟩ = some (.slice (some ⟨bA, oA, none⟩) L c) := ⟨(HG6.out.below bb7 (by omega)).cellAt 0 _ rfl, (HG6.out.below bb7 (by omega)).cellAt 1 _ rfl⟩; have b7 : Below w.heap.size w w7 := Hb6.out.trans (bb7.mono Hb6.out.size)
  refine hK.out _ _ ?s27 (fun hHeld27 => ?_)
  case s27 => ((try dsimp only); (first | exact hS3 | exact hS2 | exact ⟨k0, k1⟩ | assumption | (first | go_keep | (obtain ⟨hq, _⟩ := bcell ‹Below _ _ _›; (repeat' apply And.intro) <;> (rw [hq _ _ (by first | assumption | omega | (simp; done) | (simp; omega) | (simp; assumption))] <;> (first | assumption | (simp [*]; done)))))))
  clear hK K hHeld
  have hHeld := hHeld27; clear hHeld27
  try simp only [Act.put, List.setIfInBounds_toArray, List.set_cons_zero, List.set_cons_succ]
  refine wpAnyH_ready (rs := [7]) (by kernel_rfl) (by simp) ?_
  refine AllReadyH.cons rfl (fun K hK => ?_) AllReadyH.nil
  go_simp
  refine (C3.out _ b7).mono ?_; rintro e w8 ⟨gb, cb, rfl, hown8, hb8⟩; have bb8 : Below w6.heap.size w6 w8 := bb7.trans (hb8.mono bb7.size); have hS3 : w8.cell? ⟨w.heap.size, 0, none⟩ = some (.int .i64 n) ∧ w8.cell? ⟨w.heap.size, 1, none⟩ = some (.slice (some ⟨bA, oA, none⟩) L c) := ⟨(HG6.out.below bb8 (by omega)).cellAt 0 _ rfl, (HG6.out.below bb8 (by omega)).cellAt 1 _ rfl⟩
  refine hK.out _ _ ?s28 (fun hHeld28 => ?_)
  case s28 => ((try dsimp only); (first | exact hS3 | exact hS2 | exact ⟨k0, k1⟩ | assumption | (first | go_keep | (obtain ⟨hq, _⟩ := bcell ‹Below _ _ _›; (repeat' apply And.intro) <;> (rw [hq _ _ (by first | assumption | omega | (simp; done) | (simp; omega) | (simp; assumption))] <;> (first | assumption | (simp [*]; done)))))))
  clear hK K hHeld
  have hHeld := hHeld28; clear hHeld28
  try simp only [Act.put, List.setIfInBounds_toArray, List.set_cons_zero, List.set_cons_succ]
  refine wpAnyH_take_d (i := 8) (d := some 9) (v := ?v29) rfl rfl (by kernel_rfl) (by kernel_rfl) (by kernel_rfl) (fun _ _ _ h => h) (Or.inl ⟨by kernel_rfl, ?y29⟩) (by assumption) ?_
  case y29 => (intro w' hSw; (try dsimp only at hSw); go_simp; try with_reducible rfl)
  try simp only [Act.put, List.setIfInBounds_toArray, List.set_cons_zero, List.set_cons_succ]
  refine wpAnyH_take_d (i := 9) (d := some 10) (v := ?v30) rfl rfl (by kernel_rfl) (by kernel_rfl) (by kernel_rfl) (fun _ _ _ h => h) (Or.inl ⟨by kernel_rfl, ?y30⟩) (by assumption) ?_
  case y30 => (intro w' hSw; (try dsimp only at hSw); go_simp; try with_reducible rfl)
  try simp only [Act.put, List.setIfInBounds_toArray, List.set_cons_zero, List.set_cons_succ]
  refine wpAnyH_done (by kernel_rfl) ?_ _
  refine NoPanic.normal ?_
  have HA8 := Lib.hid (own_mono (own_below hown7 hb8) Hb6.out.size)
  have HB8 := Lib.hid (own_mono hown8 b7.size)
  clear hHeld hS2 hS3 hb7 b7 hown7 hown8 bb7 hb8
  have HG8 := Lib.hid (HG6.out.below bb8 (by have := HZ6.out.lt; omega))
  have HZ8 := Lib.hid (HZ6.out.below bb8 HZ6.out.lt)
  have Hb8 : Hid (Below w.heap.size w w8) := Hb6.out.trans (bb8.mono (by have := HZ6.out.lt; omega))
  clear k0 k1 z9 HG6 HZ6 Hb6
  have k0 := HG8.out.cellAt 0 _ rfl
  have k1 := HG8.out.cellAt 1 _ rfl
  have z9 := HZ8.out.lt
  clear bb8
  have a0 : w8.cell? ⟨ga, 0, none⟩ = some (.int .i64 (x0 : Int)) := own_cellI HA8.out rfl (by decide)
  have a1 : w8.cell? ⟨ga, 1, none⟩ = some (.int .i64 (x1 : Int)) := own_cellI HA8.out rfl (by decide)
  have b0 : w8.cell? ⟨gb, 0, none⟩ = some (.int .i64 (y0 : Int)) := own_cellI HB8.out rfl (by decide)
  have b1 : w8.cell? ⟨gb, 1, none⟩ = some (.int .i64 (y1 : Int)) := own_cellI HB8.out rfl (by decide)
  go_wp2
  refine wp_region_noPanic ?_
  refine wp_region_held_drew (S := (fun w' => w'.cell? ⟨ga, 0, none⟩ = some (.int .i64 (x0 : Int)) ∧ w'.cell? ⟨ga, 1, none⟩ = some (.int .i64 (x1 : Int)) ∧ w'.cell? ⟨gb, 0, none⟩ = some (.int .i64 (y0 : Int)) ∧ w'.cell? ⟨gb, 1, none⟩ = some (.int .i64 (y1 : Int)))) (by kernel_rfl) ?_ (fun hHeld => ?_)
  · (try dsimp only); (first | exact ⟨a0, a1, b0, b1⟩ | assumption | (first | go_keep | (obtain ⟨hq, _⟩ := bcell ‹Below _ _ _›; (repeat' apply And.intro) <;> (rw [hq _ _ (by first | assumption | omega | (simp; done) | (simp; omega) | (simp; assumption))] <;> (first | assumption | (simp [*]; done))))))
  refine wpAnyH_take_d (i := 0) (d := some 50) (v := ?v31) rfl rfl (by kernel_rfl) (by kernel_rfl) (by kernel_rfl) (fun _ _ _ h => h) (Or.inl ⟨by kernel_rfl, ?y31⟩) (by assumption) ?_
  case y31 => (intro w' hSw; (try dsimp only at hSw); go_simp; try with_reducible rfl)
  try simp only [Act.put, List.setIfInBounds_toArray, List.set_cons_zero, List.set_cons_succ]
  refine wpAnyH_take_d (i := 1) (d := some 51) (v := ?v32) rfl rfl (by kernel_rfl) (by kernel_rfl) (by kernel_rfl) (fun _ _ _ h => h) (Or.inl ⟨by kernel_rfl, ?y32⟩) (by assumption) ?_
  case y32 => (intro w' hSw; (try dsimp only at hSw); go_simp; try with_reducible rfl)
  try simp only [Act.put, List.setIfInBounds_toArray, List.set_cons_zero, List.set_cons_succ]
  refine wpAnyH_take_d (i := 2) (d := some 52) (v := ?v33) rfl rfl (by kernel_rfl) (by kernel_rfl) (by kernel_rfl) (fun _ _ _ h => h) (Or.inl ⟨by kernel_rfl, ?y33⟩) (by assumption) ?_
  case y33 => (intro w' hSw; (try dsimp only at hSw); go_simp; try with_reducible rfl)
  try simp only [Act.put, List.setIfInBounds_toArray, List.set_cons_zero, List.set_cons_succ]
  refine wpAnyH_take_d (i := 3) (d := some 53) (v := ?v34) rfl rfl (by kernel_rfl) (by kernel_rfl) (by kernel_rfl) (fun _ _ _ h => h) (Or.inl ⟨by kernel_rfl, ?y34⟩) (by assumption) ?_
  case y34 => (intro w' hSw; (try dsimp only at hSw); go_simp; try with_reducible rfl)
  try simp only [Act.put, List.setIfInBounds_toArray, List.set_cons_zero, List.set_cons_succ]
  refine wpAnyH_take_d (i := 4) (d := some 54) (v := ?v35) rfl rfl (by kernel_rfl) (by kernel_rfl) (by kernel_rfl) (fun _ _ _ h => h) (Or.inl ⟨by kernel_rfl, ?y35⟩) (by assumption) ?_
  case y35 => (intro w' hSw; (try dsimp only at hSw); go_simp; try with_reducible rfl)
  try simp only [Act.put, List.setIfInBounds_toArray, List.set_cons_zero, List.set_cons_succ]
  refine wpAnyH_take_d (i := 5) (d := some 55) (v := ?v36) rfl rfl (by kernel_rfl) (by kernel_rfl) (by kernel_rfl) (fun _ _ _ h => h) (Or.inl ⟨by kernel_rfl, ?y36⟩) (by assumption) ?_
  case y36 => (intro w' hSw; (try dsimp only at hSw); go_simp; try with_reducible rfl)
  try simp only [Act.put, List.setIfInBounds_toArray, List.set_cons_zero, List.set_cons_succ]
  refine wpAnyH_take_d (i := 6) (d := some 56) (v := ?v37) rfl rfl (by kernel_rfl) (by kernel_rfl) (by kernel_rfl) (fun _ _ _ h => h) (Or.inl ⟨by kernel_rfl, ?y37⟩) (by assumption) ?_
  case y37 => (intro w' hSw; (try dsimp only at hSw); go_simp; try with_reducible rfl)
  try simp only [Act.put, List.setIfInBounds_toArray, List.set_cons_zero, List.set_cons_succ]
  refine wpAnyH_take_d (i := 7) (d := some 57) (v := ?v38) rfl rfl (by kernel_rfl) (by kernel_rfl) (by kernel_rfl) (fun _ _ _ h => h) (Or.inl ⟨by kernel_rfl, ?y38⟩) (by assumption) ?_
  case y38 => (intro w' hSw; (try dsimp only at hSw); go_simp; try with_reducible rfl)
  try simp only [Act.put, List.setIfInBounds_toArray, List.set_cons_zero, List.set_cons_succ]
  refine wpAnyH_take_d (i := 8) (d := some 58) (v := ?v39) rfl rfl (by kernel_rfl) (by kernel_rfl) (by kernel_rfl) (fun _ _ _ h => h) (Or.inl ⟨by kernel_rfl, ?y39⟩) (by assumption) ?_
  case y39 => (intro w' hSw; (try dsimp only at hSw); go_simp; try with_reducible rfl)
  try simp only [Act.put, List.setIfInBounds_toArray, List.set_cons_zero, List.set_cons_succ]
  refine wpAnyH_take_d (i := 9) (d := some 59) (v := ?v40) rfl rfl (by kernel_rfl) (by kernel_rfl) (by kernel_rfl) (fun _ _ _ h => h) (Or.inl ⟨by kernel_rfl, ?y40⟩) (by assumption) ?_
  case y40 => (intro w' hSw; (try dsimp only at hSw); go_simp; try with_reducible rfl)
  try simp only [Act.put, List.setIfInBounds_toArray, List.set_cons_zero, List.set_cons_succ]
  refine wpAnyH_take_d (i := 10) (d := some 60) (v := ?v41) rfl rfl (by kernel_rfl) (by kernel_rfl) (by kernel_rfl) (fun _ _ _ h => h) (Or.inl ⟨by kernel_rfl, ?y41⟩) (by assumption) ?_
  case y41 => (intro w' hSw; (try dsimp only at hSw); go_simp; try with_reducible rfl)
  try simp only [Act.put, List.setIfInBounds_toArray, List.set_cons_zero, List.set_cons_succ]
  refine wpAnyH_take_d (i := 11) (d := some 61) (v := ?v42) rfl rfl (by kernel_rfl) (by kernel_rfl) (by kernel_rfl) (fun _ _ _ h => h) (Or.inl ⟨by kernel_rfl, ?y42⟩) (by assumption) ?_
  case y42 => (intro w' hSw; (try dsimp only at hSw); go_simp; try with_reducible rfl)
  try simp only [Act.put, List.setIfInBounds_toArray, List.set_cons_zero, List.set_cons_succ]
  refine wpAnyH_take_d (i := 12) (d := some 62) (v := ?v43) rfl rfl (by kernel_rfl) (by kernel_rfl) (by kernel_rfl) (fun _ _ _ h => h) (Or.inl ⟨by kernel_rfl, ?y43⟩) (by assumption) ?_
  case y43 => (intro w' hSw; (try dsimp only at hSw); go_simp; try with_reducible rfl)
  try simp only [Act.put, List.setIfInBounds_toArray, List.set_cons_zero, List.set_cons_succ]
  refine wpAnyH_take_d (i := 13) (d := some 63) (v := ?v44) rfl rfl (by kernel_rfl) (by kernel_rfl) (by kernel_rfl) (fun _ _ _ h => h) (Or.inl ⟨by kernel_rfl, ?y44⟩) (by assumption) ?_
  case y44 => (intro w' hSw; (try dsimp only at hSw); go_simp; try with_reducible rfl)
  try simp only [Act.put, List.setIfInBounds_toArray, List.set_cons_zero, List.set_cons_succ]
  refine wpAnyH_take_d (i := 14) (d := some 64) (v := ?v45) rfl rfl (by kernel_rfl) (by kernel_rfl) (by kernel_rfl) (fun _ _ _ h => h) (Or.inl ⟨by kernel_rfl, ?y45⟩) (by assumption) ?_
  case y45 => (intro w' hSw; (try dsimp only at hSw); go_simp; try with_reducible rfl)
  try simp only [Act.put, List.setIfInBounds_toArray, List.set_cons_zero, List.set_cons_succ]
  refine wpAnyH_take_d (i := 15) (d := some 65) (v := ?v46) rfl rfl (by kernel_rfl) (by kernel_rfl) (by kernel_rfl) (fun _ _ _ h => h) (Or.inl ⟨by kernel_rfl, ?y46⟩) (by assumption) ?_
  case y46 => (intro w' hSw; (try dsimp only at hSw); go_simp; try with_reducible rfl)
  try simp only [Act.put, List.setIfInBounds_toArray, List.set_cons_zero, List.set_cons_succ]
  refine wpAnyH_done (by kernel_rfl) ?_ _
  refine NoPanic.normal ?_
  clear hHeld a0 a1 b0 b1
  obtain ⟨w9, hw9⟩ : ∃ x, x = w8.drew := ⟨_, rfl⟩
  have hb9 : Below w8.heap.size w8 w9 := by rw [hw9]; exact Below.drew (Below.refl _ _)
  rw [← hw9]
  clear hw9
  have HA9 := Lib.hid (own_below HA8.out hb9)
  have HB9 := Lib.hid (own_below HB8.out hb9)
  clear HA8 HB8
  have HG9 := Lib.hid (HG8.out.below hb9 (by have := HZ8.out.lt; omega))
  have HZ9 := Lib.hid (HZ8.out.below hb9 HZ8.out.lt)
  have Hb9 : Hid (Below w.heap.size w w9) := Hb8.out.trans (hb9.mono (by have := HZ8.out.lt; omega))
  clear k0 k1 z9 HG8 HZ8 Hb8
  have k0 := HG9.out.cellAt 0 _ rfl
  have k1 := HG9.out.cellAt 1 _ rfl
  have z9 := HZ9.out.lt
  clear hb9
  obtain ⟨w10, hw10⟩ : ∃ x, x = w9.alloc (.cells #[.int .i64 (u : Int), .int .i64 (v : Int)] 2) := ⟨_, rfl⟩
  have hb10 : Below w9.heap.size w9 w10 := by rw [hw10]; exact Below.alloc (Below.refl _ _) (Nat.le_refl _) _
  have hR10 : RdI w10 (some ⟨w9.heap.size, 0, none⟩) [(u : Int), (v : Int)] := by rw [hw10]; exact blkI_rd (t := 2) (xs := [(u : Int), (v : Int)]) (Blk.new' _ rfl)
  have HA10 := Lib.hid (own_below HA9.out hb10)
  have HB10 := Lib.hid (own_below HB9.out hb10)
  clear HA9 HB9
  have HG10 := Lib.hid (HG9.out.below hb10 (by have := HZ9.out.lt; omega))
  have HZ10 := Lib.hid (HZ9.out.below hb10 HZ9.out.lt)
  have Hb10 : Hid (Below w.heap.size w w10) := Hb9.out.trans (hb10.mono (by have := HZ9.out.lt; omega))
  clear k0 k1 z9 HG9 HZ9 Hb9
  have k0 := HG10.out.cellAt 0 _ rfl
  have k1 := HG10.out.cellAt 1 _ rfl
  have z9 := HZ10.out.lt
  go_wp2_with fail
  rw [← hw10]
  refine (cs.out w10 _ hR10).mono ?_
  rintro e w99 ⟨rfl, rfl⟩
  clear hw10 hb10 hR10 cs
  go_wp2_with fail
  refine (CW.out w10 Hb10.out).mono ?_
  rintro e w11 ⟨A11, c11, rfl, hown11, hb11⟩
  have HE11 := Lib.hid (own_mono hown11 Hb10.out.size)
  have HA11 := Lib.hid (own_below HA10.out hb11)
  have HB11 := Lib.hid (own_below HB10.out hb11)
  clear HA10 HB10 hown11
  have HG11 := Lib.hid (HG10.out.below hb11 (by have := HZ10.out.lt; omega))
  have HZ11 := Lib.hid (HZ10.out.below hb11 HZ10.out.lt)
  have Hb11 : Hid (Below w.heap.size w w11) := Hb10.out.trans (hb11.mono (by have := HZ10.out.lt; omega))
  clear k0 k1 z9 HG10 HZ10 Hb10
  have k0 := HG11.out.cellAt 0 _ rfl
  have k1 := HG11.out.cellAt 1 _ rfl
  have z9 := HZ11.out.lt
  clear hb11
  obtain ⟨gp, Hgp⟩ : ∃ g, Hid (w11.heap.size = g) := ⟨_, rfl⟩
  have hB12 : Below w11.heap.size w11 (w11.alloc (.cells #[.slice (some ⟨ga, 0, none⟩) 2 ca, .slice (some ⟨gb, 0, none⟩) 2 cb] 43)) := by (repeat' (first | (with_reducible exact Below.refl _ _) | (with_reducible assumption) | (with_reducible refine Below.alloc ?_ ?_ _) | (with_reducible refine Below.drew ?_) | (with_reducible refine below_drewN ?_ _) | (with_reducible refine Below.setCell ?_ ?_ _) | (with_reducible refine Below.trans ?_ (Below.mono (by assumption) ?_)) | (first | omega | (simp only [World.size_alloc, World.size_setCell, World.size_drew]; omega) | (simp; omega) | (simp; done))))
  have HP12 : Hid (Blk (w11.alloc (.cells #[.slice (some ⟨ga, 0, none⟩) 2 ca, .slice (some ⟨gb, 0, none⟩) 2 cb] 43)) gp 43 #[.slice (some ⟨ga, 0, none⟩) 2 ca, .slice (some ⟨gb, 0, none⟩) 2 cb]) := by rw [← Hgp.out]; exact Blk.new w11 _ _
  have HE12 := Lib.hid (own_below HE11.out hB12)
  have HA12 := Lib.hid (own_below HA11.out hB12)
  have HB12 := Lib.hid (own_below HB11.out hB12)
  have HG12 := Lib.hid (HG11.out.below hB12 (by omega))
  have HZ12 := Lib.hid (HZ11.out.below hB12 HZ11.out.lt)
  have Hb12 : Hid (Below w.heap.size w (w11.alloc (.cells #[.slice (some ⟨ga, 0, none⟩) 2 ca, .slice (some ⟨gb, 0, none⟩) 2 cb] 43))) := Hb11.out.trans (hB12.mono Hb11.out.size)
  clear HE11 HA11 HB11 HG11 HZ11 Hb11 hB12 k0 k1 z9
  go_wp2_with fail
  simp only [Hgp.out]
  generalize w11.alloc (.cells #[.slice (some ⟨ga, 0, none⟩) 2 ca, .slice (some ⟨gb, 0, none⟩) 2 cb] 43) = W12 at *
  go_loopw [12, 78] (fun s ii wr => ((ii = .int .i64 0 ∧ Hid (wr.ownsRow w.heap.size 40 2 s (K0) (cE P0))) ∨ (ii = .int .i64 1 ∧ Hid (wr.ownsRow w.heap.size 40 2 s (K0 + 1) (cE (P0 ++ [(frV T 0 x0, frV T 0 x1)])))) ∨ (ii = .int .i64 2 ∧ Hid (wr.ownsRow w.heap.size 40 2 s (K0 + 2) (cE P2)))) ∧ Hid (wr.ownsRow w.heap.size 2 1 (.slice (some ⟨ga, 0, none⟩) 2 ca) 2 (cI [(x0 : Int), (x1 : Int)])) ∧ Hid (wr.ownsRow w.heap.size 2 1 (.slice (some ⟨gb, 0, none⟩) 2 cb) 2 (cI [(y0 : Int), (y1 : Int)])) ∧ Hid (Blk wr gp 43 #[.slice (some ⟨ga, 0, none⟩) 2 ca, .slice (some ⟨gb, 0, none⟩) 2 cb]) ∧ Hid (Blk wr w.heap.size 28 #[.int .i64 n, .slice (some ⟨bA, oA, none⟩) L c]) ∧ Hid (Blk wr (w.heap.size + 1) 28 #[.int .i64 0, .slice none 0 0]) ∧ Hid (Below w.heap.size w wr)) (fun _ ii _ => 2 - (intOf ii).toNat)
  case atStart => exact ⟨.inl ⟨rfl, HE12⟩, HA12, HB12, HP12, HG12, HZ12, Hb12⟩
  case round =>
    clear HE12 HA12 HB12 HP12 HG12 HZ12 Hb12
    obtain ⟨hcase, HA, HB, HP, HG, HZ, Hbel⟩ := hrel
    have hsz := Hbel.out.size
    have zg := HG.out.lt
    have zz := HZ.out.lt
    have zp := HP.out.lt
    have q0 := HP.out.cellAt 0 _ rfl
    have q1 := HP.out.cellAt 1 _ rfl
    rcases hcase with ⟨rfl, HE⟩ | ⟨rfl, HE⟩ | ⟨rfl, HE⟩
    · obtain ⟨A5, c5, rfl⟩ := own_form HE.out
      obtain ⟨z1, Hz1⟩ : ∃ r : Int, Hid ((x0 : Int) - (shC T x0 : Nat) = r) := ⟨_, rfl⟩
      obtain ⟨z2, Hz2⟩ : ∃ r : Int, Hid ((x1 : Int) - (shC T x1 : Nat) = r) := ⟨_, rfl⟩
      have Hs : Hid ((P0 ++ [(frV T 0 x0, frV T 0 x1)]) = P0 ++ [(z1, z2)]) := by show _ = _; rw [← Hz1.out, ← Hz2.out]; simp [frV]
      have cf1 := fun W => shifted_b x0 T W (by have := H60.out; omega) HT63.out
      have cf2 := fun W => shifted_b x1 T W (by have := H60.out; omega) HT63.out
      rw [Hz1.out] at cf1
      rw [Hz2.out] at cf2
      have cf1 := Lib.hid cf1
      have cf2 := Lib.hid cf2
      have d1 : wr.cell? ⟨ga, 0, none⟩ = some (.int .i64 (x0 : Int)) := own_cellI HA.out rfl (by decide)
      have d2 : wr.cell? ⟨ga, 1, none⟩ = some (.int .i64 (x1 : Int)) := own_cellI HA.out rfl (by decide)
      have q9 := (HA.out.lt ga rfl).2
      have hB3 : Below wr.heap.size wr (wr.drew.alloc (.cells #[.int .i64 z1, .int .i64 z2] 40)) := by (repeat' (first | (with_reducible exact Below.refl _ _) | (with_reducible assumption) | (with_reducible refine Below.alloc ?_ ?_ _) | (with_reducible refine Below.drew ?_) | (with_reducible refine below_drewN ?_ _) | (with_reducible refine Below.setCell ?_ ?_ _) | (with_reducible refine Below.trans ?_ (Below.mono (by assumption) ?_)) | (first | omega | (simp only [World.size_alloc, World.size_setCell, World.size_drew]; omega) | (simp; omega) | (simp; done))))
      have hown2 := own_below HE.out hB3
      have hnew : RdE (wr.drew.alloc (.cells #[.int .i64 z1, .int .i64 z2] 40)) (some ⟨wr.heap.size, 0, none⟩) [(z1, z2)] := blkE_rd (t := 40) (es := [(z1, z2)]) (Blk.new' (n := wr.heap.size) _ (by simp))
      have hb9 : Below w.heap.size w (wr.drew.alloc (.cells #[.int .i64 z1, .int .i64 z2] 40)) := Hbel.out.trans (hB3.mono hsz)
      go_wp2
      refine wp_region_noPanic ?_
      refine wp_region_held_drew (S := (fun w' => w'.cell? ⟨ga, 0, none⟩ = some (.int .i64 (x0 : Int)) ∧ w'.cell? ⟨ga, 1, none⟩ = some (.int .i64 (x1 : Int)))) (by kernel_rfl) ?_ (fun hHeld => ?_)
      · (try dsimp only); (first | exact hS3 | exact hS2 | assumption | exact ⟨d1, d2⟩ | (first | go_keep | (obtain ⟨hq, _⟩ := bcell ‹Below _ _ _›; (repeat' apply And.intro) <;> (rw [hq _ _ (by first | assumption | omega | (simp; done) | (simp; omega) | (simp; assumption))] <;> (first | assumption | (simp [*]; done))))))
      refine wpAnyH_take_d (i := 0) (d := some 82) (v := ?v47) rfl rfl (by kernel_rfl) (by kernel_rfl) (by kernel_rfl) (fun _ _ _ h => h) (Or.inl ⟨by kernel_rfl, ?y47⟩) (by assumption) ?_
      case y47 => (intro w' hSw; (try dsimp only at hSw); go_simp; try with_reducible rfl)
      try simp only [Act.put, List.setIfInBounds_toArray, List.set_cons_zero, List.set_cons_succ]
      refine wpAnyH_take_d (i := 1) (d := some 83) (v := ?v48) rfl rfl (by kernel_rfl) (by kernel_rfl) (by kernel_rfl) (fun _ _ _ h => h) (Or.inl ⟨by kernel_rfl, ?y48⟩) (by assumption) ?_
      case y48 => (intro w' hSw; (try dsimp only at hSw); go_simp; try with_reducible rfl)
      try simp only [Act.put, List.setIfInBounds_toArray, List.set_cons_zero, List.set_cons_succ]
      refine wpAnyH_take_d (i := 2) (d := some 84) (v := ?v49) rfl rfl (by kernel_rfl) (by kernel_rfl) (by kernel_rfl) (fun _ _ _ h => h) (Or.inl ⟨by kernel_rfl, ?y49⟩) (by assumption) ?_
      case y49 => (intro w' hSw; (try dsimp only at hSw); go_simp; try with_reducible rfl)
      try simp only [Act.put, List.setIfInBounds_toArray, List.set_cons_zero, List.set_cons_succ]
      refine wpAnyH_take_d (i := 3) (d := some 85) (v := ?v50) rfl rfl (by kernel_rfl) (by kernel_rfl) (by kernel_rfl) (fun _ _ _ h => h) (Or.inl ⟨by kernel_rfl, ?y50⟩) (by assumption) ?_
      case y50 => (intro w' hSw; (try dsimp only at hSw); go_simp; try with_reducible rfl)
      try simp only [Act.put, List.setIfInBounds_toArray, List.set_cons_zero, List.set_cons_succ]
      refine wpAnyH_take_d (i := 4) (d := some 86) (v := ?v51) rfl rfl (by kernel_rfl) (by kernel_rfl) (by kernel_rfl) (fun _ _ _ h => h) (Or.inl ⟨by kernel_rfl, ?y51⟩) (by assumption) ?_
      case y51 => (intro w' hSw; (try dsimp only at hSw); go_simp; try with_reducible rfl)
      try simp only [Act.put, List.setIfInBounds_toArray, List.set_cons_zero, List.set_cons_succ]
      refine wpAnyH_take_d (i := 6) (d := some 88) (v := ?v52) rfl rfl (by kernel_rfl) (by kernel_rfl) (by kernel_rfl) (fun _ _ _ h => h) (Or.inl ⟨by kernel_rfl, ?y52⟩) (by assumption) ?_
      case y52 => (intro w' hSw; (try dsimp only at hSw); go_simp; try with_reducible rfl)
      try simp only [Act.put, List.setIfInBounds_toArray, List.set_cons_zero, List.set_cons_succ]
      refine wpAnyH_take_d (i := 7) (d := some 89) (v := ?v53) rfl rfl (by kernel_rfl) (by kernel_rfl) (by kernel_rfl) (fun _ _ _ h => h) (Or.inl ⟨by kernel_rfl, ?y53⟩) (by assumption) ?_
      case y53 => (intro w' hSw; (try dsimp only at hSw); go_simp; try with_reducible rfl)
      try simp only [Act.put, List.setIfInBounds_toArray, List.set_cons_zero, List.set_cons_succ]
      refine wpAnyH_take_d (i := 8) (d := some 90) (v := ?v54) rfl rfl (by kernel_rfl) (by kernel_rfl) (by kernel_rfl) (fun _ _ _ h => h) (Or.inl ⟨by kernel_rfl, ?y54⟩) (by assumption) ?_
      case y54 => (intro w' hSw; (try dsimp only at hSw); go_simp; try with_reducible rfl)
      try simp only [Act.put, List.setIfInBounds_toArray, List.set_cons_zero, List.set_cons_succ]
      refine wpAnyH_take_d (i := 9) (d := some 91) (v := ?v55) rfl rfl (by kernel_rfl) (by kernel_rfl) (by kernel_rfl) (fun _ _ _ h => h) (Or.inl ⟨by kernel_rfl, ?y55⟩) (by assumption) ?_
      case y55 => (intro w' hSw; (try dsimp only at hSw); go_simp; try with_reducible rfl)
      try simp only [Act.put, List.setIfInBounds_toArray, List.set_cons_zero, List.set_cons_succ]
      refine wpAnyH_ready (rs := [5]) (by kernel_rfl) (by simp) ?_
      refine AllReadyH.cons rfl (fun K hK => ?_) AllReadyH.nil
      go_simp
      refine (cf1.out _).mono ?_; rintro e w9 ⟨rfl, rfl⟩
      refine hK.out _ _ ?s56 (fun hHeld56 => ?_)
      case s56 => ((try dsimp only); (first | exact hS3 | exact hS2 | assumption | exact ⟨d1, d2⟩ | (first | go_keep | (obtain ⟨hq, _⟩ := bcell ‹Below _ _ _›; (repeat' apply And.intro) <;> (rw [hq _ _ (by first | assumption | omega | (simp; done) | (simp; omega) | (simp; assumption))] <;> (first | assumption | (simp [*]; done)))))))
      clear hK K hHeld
      have hHeld := hHeld56; clear hHeld56
      try simp only [Act.put, List.setIfInBounds_toArray, List.set_cons_zero, List.set_cons_succ]
      refine wpAnyH_ready (rs := [10]) (by kernel_rfl) (by simp) ?_
      refine AllReadyH.cons rfl (fun K hK => ?_) AllReadyH.nil
      go_simp
      refine (cf2.out _).mono ?_; rintro e w9 ⟨rfl, rfl⟩
      refine hK.out _ _ ?s57 (fun hHeld57 => ?_)
      case s57 => ((try dsimp only); (first | exact hS3 | exact hS2 | assumption | exact ⟨d1, d2⟩ | (first | go_keep | (obtain ⟨hq, _⟩ := bcell ‹Below _ _ _›; (repeat' apply And.intro) <;> (rw [hq _ _ (by first | assumption | omega | (simp; done) | (simp; omega) | (simp; assumption))] <;> (first | assumption | (simp [*]; done)))))))
      clear hK K hHeld
      have hHeld := hHeld57; clear hHeld57
      try simp only [Act.put, List.setIfInBounds_toArray, List.set_cons_zero, List.set_cons_succ]
      refine wpAnyH_take_d (i := 11) (d := some 93) (v := ?v58) rfl rfl (by kernel_rfl) (by kernel_rfl) (by kernel_rfl) (fun _ _ _ h => h) (Or.inl ⟨by kernel_rfl, ?y58⟩) (by assumption) ?_
      case y58 => (intro w' hSw; (try dsimp only at hSw); go_simp; try with_reducible rfl)
      try simp only [Act.put, List.setIfInBounds_toArray, List.set_cons_zero, List.set_cons_succ]
      have hS2 : (wr.drew.alloc (.cells #[.int .i64 z1, .int .i64 z2] 40)).cell? ⟨ga, 0, none⟩ = some (.int .i64 (x0 : Int)) ∧ (wr.drew.alloc (.cells #[.int .i64 z1, .int .i64 z2] 40)).cell? ⟨ga, 1, none⟩ = some (.int .i64 (x1 : Int)) := ⟨((bcell hB3).1 _ _ q9).trans d1, ((bcell hB3).1 _ _ q9).trans d2⟩
      refine wpAnyH_ready (rs := [12]) (by kernel_rfl) (by simp) ?_
      refine AllReadyH.cons rfl (fun K hK => ?_) AllReadyH.nil
      go_simp
      refine hK.out _ _ ?s59 (fun hHeld59 => ?_)
      case s59 => ((try dsimp only); (first | exact hS3 | exact hS2 | assumption | exact ⟨d1, d2⟩ | (first | go_keep | (obtain ⟨hq, _⟩ := bcell ‹Below _ _ _›; (repeat' apply And.intro) <;> (rw [hq _ _ (by first | assumption | omega | (simp; done) | (simp; omega) | (simp; assumption))] <;> (first | assumption | (simp [*]; done)))))))
      clear hK K hHeld
      have hHeld := hHeld59; clear hHeld59
      try simp only [Act.put, List.setIfInBounds_toArray, List.set_cons_zero, List.set_cons_succ]
      refine wpAnyH_ready (rs := [13]) (by kernel_rfl) (by simp) ?_
      refine AllReadyH.cons rfl (fun K hK => ?_) AllReadyH.nil
      refine wp_appendE rfl w.heap.size _ K0 P0 rfl hown2 wr.heap.size 0 1 1 [(z1, z2)] rfl rfl hnew (by have := HKb.out; omega) (by omega) (by simp; omega) ?_
      intro v' w3 hown3 hfr hgr
      have b31 := hfr w.heap.size w (Nat.le_refl _) hb9
      have HA3 := own_same (own_below HA.out hB3) fun t cs ht hB => hB.grown' hown2 hgr (by rw [ht]; decide)
      have HB3 := own_same (own_below HB.out hB3) fun t cs ht hB => hB.grown' hown2 hgr (by rw [ht]; decide)
      have hS3 : w3.cell? ⟨ga, 0, none⟩ = some (.int .i64 (x0 : Int)) ∧ w3.cell? ⟨ga, 1, none⟩ = some (.int .i64 (x1 : Int)) := ⟨own_cellI HA3 rfl (by decide), own_cellI HA3 rfl (by decide)⟩
      refine hK.out _ _ ?s60 (fun hHeld60 => ?_)
      case s60 => ((try dsimp only); (first | exact hS3 | exact hS2 | assumption | exact ⟨d1, d2⟩ | (first | go_keep | (obtain ⟨hq, _⟩ := bcell ‹Below _ _ _›; (repeat' apply And.intro) <;> (rw [hq _ _ (by first | assumption | omega | (simp; done) | (simp; omega) | (simp; assumption))] <;> (first | assumption | (simp [*]; done)))))))
      clear hK K hHeld
      have hHeld := hHeld60; clear hHeld60
      try simp only [Act.put, List.setIfInBounds_toArray, List.set_cons_zero, List.set_cons_succ]
      refine wpAnyH_take_d (i := 14) (d := some 12) (v := ?v61) rfl rfl (by kernel_rfl) (by kernel_rfl) (by kernel_rfl) (fun _ _ _ h => h) (Or.inl ⟨by kernel_rfl, ?y61⟩) (by assumption) ?_
      case y61 => (intro w' hSw; (try dsimp only at hSw); go_simp; try with_reducible rfl)
      try simp only [Act.put, List.setIfInBounds_toArray, List.set_cons_zero, List.set_cons_succ]
      refine wpAnyH_done (by kernel_rfl) ?_ _
      refine NoPanic.normal ?_
      have Hb3 := Lib.hid b31
      have HA10 := Lib.hid HA3
      have HB10 := Lib.hid HB3
      have HP10 := Lib.hid ((HP.out.below hB3 zp).grown' hown2 hgr (by decide))
      have HG10 := Lib.hid ((HG.out.below hB3 zg).grown' hown2 hgr (by decide))
      have HZ10 := Lib.hid ((HZ.out.below hB3 zz).grown' hown2 hgr (by decide))
      have HE3 : Hid (w3.ownsRow w.heap.size 40 2 v' (K0 + 1) (cE (P0 ++ [(frV T 0 x0, frV T 0 x1)]))) := by
        show World.ownsRow _ _ _ _ _ _ _
        rw [Hs.out]
        exact hown3
      clear hHeld hS3 hS2 b31 HA3 HB3 hown3 hfr hgr hown2 hnew hB3 hb9 HE HA HB HP HG HZ Hbel d1 d2 q9 q0 q1
      go_wp2
      exact ⟨⟨.inr (.inl ⟨rfl, HE3⟩), HA10, HB10, HP10, HG10, HZ10, Hb3⟩, by simp [intOf]⟩
    · obtain ⟨A5, c5, rfl⟩ := own_form HE.out
      obtain ⟨z1, Hz1⟩ : ∃ r : Int, Hid ((y0 : Int) - (shC T y0 : Nat) = r) := ⟨_, rfl⟩
      obtain ⟨z2, Hz2⟩ : ∃ r : Int, Hid ((y1 : Int) - (shC T y1 : Nat) = r) := ⟨_, rfl⟩
      have Hs : Hid (P2 = (P0 ++ [(frV T 0 x0, frV T 0 x1)]) ++ [(z1, z2)]) := by show _ = _; rw [HL2.out, ← Hz1.out, ← Hz2.out]; simp [frV]
      have cf1 := fun W => shifted_b y0 T W (by have := H60.out; omega) HT63.out
      have cf2 := fun W => shifted_b y1 T W (by have := H60.out; omega) HT63.out
      rw [Hz1.out] at cf1
      rw [Hz2.out] at cf2
      have cf1 := Lib.hid cf1
      have cf2 := Lib.hid cf2
      have d1 : wr.cell? ⟨gb, 0, none⟩ = some (.int .i64 (y0 : Int)) := own_cellI HB.out rfl (by decide)
      have d2 : wr.cell? ⟨gb, 1, none⟩ = some (.int .i64 (y1 : Int)) := own_cellI HB.out rfl (by decide)
      have q9 := (HB.out.lt gb rfl).2
      have hB3 : Below wr.heap.size wr (wr.drew.alloc (.cells #[.int .i64 z1, .int .i64 z2] 40)) := by (repeat' (first | (with_reducible exact Below.refl _ _) | (with_reducible assumption) | (with_reducible refine Below.alloc ?_ ?_ _) | (with_reducible refine Below.drew ?_) | (with_reducible refine below_drewN ?_ _) | (with_reducible refine Below.setCell ?_ ?_ _) | (with_reducible refine Below.trans ?_ (Below.mono (by assumption) ?_)) | (first | omega | (simp only [World.size_alloc, World.size_setCell, World.size_drew]; omega) | (simp; omega) | (simp; done))))
      have hown2 := own_below HE.out hB3
      have hnew : RdE (wr.drew.alloc (.cells #[.int .i64 z1, .int .i64 z2] 40)) (some ⟨wr.heap.size, 0, none⟩) [(z1, z2)] := blkE_rd (t := 40) (es := [(z1, z2)]) (Blk.new' (n := wr.heap.size) _ (by simp))
      have hb9 : Below w.heap.size w (wr.drew.alloc (.cells #[.int .i64 z1, .int .i64 z2] 40)) := Hbel.out.trans (hB3.mono hsz)
      go_wp2
      refine wp_region_noPanic ?_
      refine wp_region_held_drew (S := (fun w' => w'.cell? ⟨gb, 0, none⟩ = some (.int .i64 (y0 : Int)) ∧ w'.cell? ⟨gb, 1, none⟩ = some (.int .i64 (y1 : Int)))) (by kernel_rfl) ?_ (fun hHeld => ?_)
      · (try dsimp only); (first | exact hS3 | exact hS2 | assumption | exact ⟨d1, d2⟩ | (first | go_keep | (obtain ⟨hq, _⟩ := bcell ‹Below _ _ _›; (repeat' apply And.intro) <;> (rw [hq _ _ (by first | assumption | omega | (simp; done) | (simp; omega) | (simp; assumption))] <;> (first | assumption | (simp [*]; done))))))
      refine wpAnyH_take_d (i := 0) (d := some 82) (v := ?v62) rfl rfl (by kernel_rfl) (by kernel_rfl) (by kernel_rfl) (fun _ _ _ h => h) (Or.inl ⟨by kernel_rfl, ?y62⟩) (by assumption) ?_
      case y62 => (intro w' hSw; (try dsimp only at hSw); go_simp; try with_reducible rfl)
      try simp only [Act.put, List.setIfInBounds_toArray, List.set_cons_zero, List.set_cons_succ]
      refine wpAnyH_take_d (i := 1) (d := some 83) (v := ?v63) rfl rfl (by kernel_rfl) (by kernel_rfl) (by kernel_rfl) (fun _ _ _ h => h) (Or.inl ⟨by kernel_rfl, ?y63⟩) (by assumption) ?_
      case y63 => (intro w' hSw; (try dsimp only at hSw); go_simp; try with_reducible rfl)
      try simp only [Act.put, List.setIfInBounds_toArray, List.set_cons_zero, List.set_cons_succ]
      refine wpAnyH_take_d (i := 2) (d := some 84) (v := ?v64) rfl rfl (by kernel_rfl) (by kernel_rfl) (by kernel_rfl) (fun _ _ _ h => h) (Or.inl ⟨by kernel_rfl, ?y64⟩) (by assumption) ?_
      case y64 => (intro w' hSw; (try dsimp only at hSw); go_simp; try with_reducible rfl)
      try simp only [Act.put, List.setIfInBounds_toArray, List.set_cons_zero, List.set_cons_succ]
      refine wpAnyH_take_d (i := 3) (d := some 85) (v := ?v65) rfl rfl (by kernel_rfl) (by kernel_rfl) (by kernel_rfl) (fun _ _ _ h => h) (Or.inl ⟨by kernel_rfl, ?y65⟩) (by assumption) ?_
      case y65 => (intro w' hSw; (try dsimp only at hSw); go_simp; try with_reducible rfl)
      try simp only [Act.put, List.setIfInBounds_toArray, List.set_cons_zero, List.set_cons_succ]
      refine wpAnyH_take_d (i := 4) (d := some 86) (v := ?v66) rfl rfl (by kernel_rfl) (by kernel_rfl) (by kernel_rfl) (fun _ _ _ h => h) (Or.inl ⟨by kernel_rfl, ?y66⟩) (by assumption) ?_
      case y66 => (intro w' hSw; (try dsimp only at hSw); go_simp; try with_reducible rfl)
      try simp only [Act.put, List.setIfInBounds_toArray, List.set_cons_zero, List.set_cons_succ]
      refine wpAnyH_take_d (i := 6) (d := some 88) (v := ?v67) rfl rfl (by kernel_rfl) (by kernel_rfl) (by kernel_rfl) (fun _ _ _ h => h) (Or.inl ⟨by kernel_rfl, ?y67⟩) (by assumption) ?_
      case y67 => (intro w' hSw; (try dsimp only at hSw); go_simp; try with_reducible rfl)
      try simp only [Act.put, List.setIfInBounds_toArray, List.set_cons_zero, List.set_cons_succ]
      refine wpAnyH_take_d (i := 7) (d := some 89) (v := ?v68) rfl rfl (by kernel_rfl) (by kernel_rfl) (by kernel_rfl) (fun _ _ _ h => h) (Or.inl ⟨by kernel_rfl, ?y68⟩) (by assumption) ?_
      case y68 => (intro w' hSw; (try dsimp only at hSw); go_simp; try with_reducible rfl)
      try simp only [Act.put, List.setIfInBounds_toArray, List.set_cons_zero, List.set_cons_succ]
      refine wpAnyH_take_d (i := 8) (d := some 90) (v := ?v69) rfl rfl (by kernel_rfl) (by kernel_rfl) (by kernel_rfl) (fun _ _ _ h => h) (Or.inl ⟨by kernel_rfl, ?y69⟩) (by assumption) ?_
      case y69 => (intro w' hSw; (try dsimp only at hSw); go_simp; try with_reducible rfl)
      try simp only [Act.put, List.setIfInBounds_toArray, List.set_cons_zero, List.set_cons_succ]
      refine wpAnyH_take_d (i := 9) (d := some 91) (v := ?v70) rfl rfl (by kernel_rfl) (by kernel_rfl) (by kernel_rfl) (fun _ _ _ h => h) (Or.inl ⟨by kernel_rfl, ?y70⟩) (by assumption) ?_
      case y70 => (intro w' hSw; (try dsimp only at hSw); go_simp; try with_reducible rfl)
      try simp only [Act.put, List.setIfInBounds_toArray, List.set_cons_zero, List.set_cons_succ]
      refine wpAnyH_ready (rs := [5]) (by kernel_rfl) (by simp) ?_
      refine AllReadyH.cons rfl (fun K hK => ?_) AllReadyH.nil
      go_simp
      refine (cf1.out _).mono ?_; rintro e w9 ⟨rfl, rfl⟩
      refine hK.out _ _ ?s71 (fun hHeld71 => ?_)
      case s71 => ((try dsimp only); (first | exact hS3 | exact hS2 | assumption | exact ⟨d1, d2⟩ | (first | go_keep | (obtain ⟨hq, _⟩ := bcell ‹Below _ _ _›; (repeat' apply And.intro) <;> (rw [hq _ _ (by first | assumption | omega | (simp; done) | (simp; omega) | (simp; assumption))] <;> (first | assumption | (simp [*]; done)))))))
      clear hK K hHeld
      have hHeld := hHeld71; clear hHeld71
      try simp only [Act.put, List.setIfInBounds_toArray, List.set_cons_zero, List.set_cons_succ]
      refine wpAnyH_ready (rs := [10]) (by kernel_rfl) (by simp) ?_
      refine AllReadyH.cons rfl (fun K hK => ?_) AllReadyH.nil
      go_simp
      refine (cf2.out _).mono ?_; rintro e w9 ⟨rfl, rfl⟩
      refine hK.out _ _ ?s72 (fun hHeld72 => ?_)
      case s72 => ((try dsimp only); (first | exact hS3 | exact hS2 | assumption | exact ⟨d1, d2⟩ | (first | go_keep | (obtain ⟨hq, _⟩ := bcell ‹Below _ _ _›; (repeat' apply And.intro) <;> (rw [hq _ _ (by first | assumption | omega | (simp; done) | (simp; omega) | (simp; assumption))] <;> (first | assumption | (simp [*]; done)))))))
      clear hK K hHeld
      have hHeld := hHeld72; clear hHeld72
      try simp only [Act.put, List.setIfInBounds_toArray, List.set_cons_zero, List.set_cons_succ]
      refine wpAnyH_take_d (i := 11) (d := some 93) (v := ?v73) rfl rfl (by kernel_rfl) (by kernel_rfl) (by kernel_rfl) (fun _ _ _ h => h) (Or.inl ⟨by kernel_rfl, ?y73⟩) (by assumption) ?_
      case y73 => (intro w' hSw; (try dsimp only at hSw); go_simp; try with_reducible rfl)
      try simp only [Act.put, List.setIfInBounds_toArray, List.set_cons_zero, List.set_cons_succ]
      have hS2 : (wr.drew.alloc (.cells #[.int .i64 z1, .int .i64 z2] 40)).cell? ⟨gb, 0, none⟩ = some (.int .i64 (y0 : Int)) ∧ (wr.drew.alloc (.cells #[.int .i64 z1, .int .i64 z2] 40)).cell? ⟨gb, 1, none⟩ = some (.int .i64 (y1 : Int)) := ⟨((bcell hB3).1 _ _ q9).trans d1, ((bcell hB3).1 _ _ q9).trans d2⟩
      refine wpAnyH_ready (rs := [12]) (by kernel_rfl) (by simp) ?_
      refine AllReadyH.cons rfl (fun K hK => ?_) AllReadyH.nil
      go_simp
      refine hK.out _ _ ?s74 (fun hHeld74 => ?_)
      case s74 => ((try dsimp only); (first | exact hS3 | exact hS2 | assumption | exact ⟨d1, d2⟩ | (first | go_keep | (obtain ⟨hq, _⟩ := bcell ‹Below _ _ _›; (repeat' apply And.intro) <;> (rw [hq _ _ (by first | assumption | omega | (simp; done) | (simp; omega) | (simp; assumption))] <;> (first | assumption | (simp [*]; done)))))))
      clear hK K hHeld
      have hHeld := hHeld74; clear hHeld74
      try simp only [Act.put, List.setIfInBounds_toArray, List.set_cons_zero, List.set_cons_succ]
      refine wpAnyH_ready (rs := [13]) (by kernel_rfl) (by simp) ?_
      refine AllReadyH.cons rfl (fun K hK => ?_) AllReadyH.nil
      refine wp_appendE rfl w.heap.size _ (K0 + 1) (P0 ++ [(frV T 0 x0, frV T 0 x1)]) rfl hown2 wr.heap.size 0 1 1 [(z1, z2)] rfl rfl hnew (by have := HKb.out; omega) (by omega) (by simp; omega) ?_
      intro v' w3 hown3 hfr hgr
      have b31 := hfr w.heap.size w (Nat.le_refl _) hb9
      have HA3 := own_same (own_below HA.out hB3) fun t cs ht hB => hB.grown' hown2 hgr (by rw [ht]; decide)
      have HB3 := own_same (own_below HB.out hB3) fun t cs ht hB => hB.grown' hown2 hgr (by rw [ht]; decide)
      have hS3 : w3.cell? ⟨gb, 0, none⟩ = some (.int .i64 (y0 : Int)) ∧ w3.cell? ⟨gb, 1, none⟩ = some (.int .i64 (y1 : Int)) := ⟨own_cellI HB3 rfl (by decide), own_cellI HB3 rfl (by decide)⟩
      refine hK.out _ _ ?s75 (fun hHeld75 => ?_)
      case s75 => ((try dsimp only); (first | exact hS3 | exact hS2 | assumption | exact ⟨d1, d2⟩ | (first | go_keep | (obtain ⟨hq, _⟩ := bcell ‹Below _ _ _›; (repeat' apply And.intro) <;> (rw [hq _ _ (by first | assumption | omega | (simp; done) | (simp; omega) | (simp; assumption))] <;> (first | assumption | (simp [*]; done)))))))
      clear hK K hHeld
      have hHeld := hHeld75; clear hHeld75
      try simp only [Act.put, List.setIfInBounds_toArray, List.set_cons_zero, List.set_cons_succ]
      refine wpAnyH_take_d (i := 14) (d := some 12) (v := ?v76) rfl rfl (by kernel_rfl) (by kernel_rfl) (by kernel_rfl) (fun _ _ _ h => h) (Or.inl ⟨by kernel_rfl, ?y76⟩) (by assumption) ?_
      case y76 => (intro w' hSw; (try dsimp only at hSw); go_simp; try with_reducible rfl)
      try simp only [Act.put, List.setIfInBounds_toArray, List.set_cons_zero, List.set_cons_succ]
      refine wpAnyH_done (by kernel_rfl) ?_ _
      refine NoPanic.normal ?_
      have Hb3 := Lib.hid b31
      have HA10 := Lib.hid HA3
      have HB10 := Lib.hid HB3
      have HP10 := Lib.hid ((HP.out.below hB3 zp).grown' hown2 hgr (by decide))
      have HG10 := Lib.hid ((HG.out.below hB3 zg).grown' hown2 hgr (by decide))
      have HZ10 := Lib.hid ((HZ.out.below hB3 zz).grown' hown2 hgr (by decide))
      have HE3 : Hid (w3.ownsRow w.heap.size 40 2 v' ((K0 + 1) + 1) (cE P2)) := by
        show World.ownsRow _ _ _ _ _ _ _
        rw [Hs.out]
        exact hown3
      clear hHeld hS3 hS2 b31 HA3 HB3 hown3 hfr hgr hown2 hnew hB3 hb9 HE HA HB HP HG HZ Hbel d1 d2 q9 q0 q1
      go_wp2
      exact ⟨⟨.inr (.inr ⟨rfl, HE3⟩), HA10, HB10, HP10, HG10, HZ10, Hb3⟩, by simp [intOf]⟩
    · obtain ⟨A7, c7, rfl⟩ := own_form HE.out
      have cm := cm.out A7 c7 wr (own_rdE HE.out)
      rw [hP2l.out] at cm
      have k0 := HG.out.cellAt 0 _ rfl
      go_wp2_with fail
      refine cm.mono ?_
      rintro e w4 ⟨A3, c3, rfl, hF, hb4⟩
      have HZ4 := Lib.hid (HZ.out.below hb4 HZ.out.lt)
      have x0 := HZ4.out.cellAt 0 _ rfl
      have x1 : (w4.setCell ⟨w.heap.size + 1, 0, none⟩ (.int .i64 (n - 2))).cell? ⟨w.heap.size + 1, 1, none⟩ = some (.slice none 0 0) := (sc_other (by simp)).trans (HZ4.out.cellAt 1 _ rfl)
      have f0 := HZ4.out.frozen 0
      have f1 := HZ4.out.frozen 1
      have HF := Lib.hid hF
      have Hb4 : Hid (Below w.heap.size w w4) := Hbel.out.trans (hb4.mono (by omega))
      clear hF hb4 cm HG HZ Hbel k0 q0 q1
      go_wp2
      refine ret_cell_tmp Tryz.results8 Tryz.underlying28 rfl (by kernel_rfl) rfl ((HZ4.out.set_ 0 (.int .i64 (n - 2))).set_ 1 (.slice A3 (K0 + 2) c3)) rfl rfl ⟨⟨A3, c3, ?_, FrE.mono (n0 := wr.heap.size) ?_ (by omega)⟩, (Hb4.out.setCell (by show w.heap.size ≤ w.heap.size + 1; omega) _).setCell (by show w.heap.size ≤ w.heap.size + 1; omega) _⟩
      · rw [madeE_len, hP2l.out]; rfl
      · exact HF.out.away (((Only.refl _ _).set 0 _).set 1 _ : Only (some ⟨w.heap.size + 1, 0, none⟩) w4 _) zz
end Go.Proofs.YtjgmoffkecnmcaaGreat
