/- impl.CutEdge. No statement of the program is proved here. -/
import Derived.Test.YtjgmoffkecnmcaaGreatCe1
import Derived.Test.YtjgmoffkecnmcaaGreatGo1
import Derived.Test.YtjgmoffkecnmcaaGreatCd
import Derived.Test.YtjgmoffkecnmcaaGreatBr2
import Derived.Test.YtjgmoffkecnmcaaGreatWo4
namespace Go.Proofs.YtjgmoffkecnmcaaGreat
open Go.RowKit
set_option linter.unusedSimpArgs false
set_option linter.unusedVariables false
set_option maxRecDepth 20000

set_option maxHeartbeats 4000000 in
/-- The code of the graph and the edge. -/
theorem implCut_code (n : Int) (A : Option Addr) (c : Nat) (es : List (Int × Int)) (x : Int) (w : World) (hl : es.length ≤ 1048576) (hr : RdE w A es) (qg qe : Bool) (hq : Hid (isGraphB n es = qg)) (he : Hid (inB x 0 ((es.length : Int) - 1) = qe)) (r : Int) (hc : gcode qg qe = r) (hr0 : r ≠ 0) :
    Calls Tryz.prog 8 #[.agg #[.int .i64 n, .slice A es.length c], .int .i64 x] w fun e w' => RetG w' w.heap.size e 0 [] r ∧ Below w.heap.size w w' := by
  have ce := fun W => isEdge_b n A es.length c x W qe he hl
  have cg := fun W (hW : Below w.heap.size w W) => graphCode_b n A c es W qg qe hq hl (hr.below hW)
  rw [hc] at cg
  have g1 : (r != 0) = true := by simpa using hr0
  clear hr hq he hr0 hc hl
  generalize es.length = L at *
  go_enter Tryz.func8, Tryz.ntmps8
  go_wp2
  refine wp_region_noPanic ?_
  refine wp_region_held_drew (S := (fun w' => w'.cell? ⟨w.heap.size, 0, none⟩ = some (.int .i64 n) ∧ w'.cell? ⟨w.heap.size, 1, none⟩ = some (.slice A L c))) (by kernel_rfl) ?_ (fun hHeld => ?_)
  · (try dsimp only); (first | go_keep | (obtain ⟨hq, _⟩ := bcell ‹Below _ _ _›; (repeat' apply And.intro) <;> (rw [hq _ _ (by first | assumption | omega | (simp; done) | (simp; omega) | (simp; assumption))] <;> (first | assumption | (simp [*]; done)))))
  refine wpAnyH_take_d (i := 0) (d := some 15) (v := ?v1) rfl rfl (by kernel_rfl) (by kernel_rfl) (by kernel_rfl) (fun _ _ _ h => h) (Or.inl ⟨by kernel_rfl, ?y1⟩) (by assumption) ?_
  case y1 => (intro w' hSw; (try dsimp only at hSw); go_simp; try with_reducible rfl)
  try simp only [Act.put, List.setIfInBounds_toArray, List.set_cons_zero, List.set_cons_succ]
  refine wpAnyH_take_d (i := 1) (d := some 16) (v := ?v2) rfl rfl (by kernel_rfl) (by kernel_rfl) (by kernel_rfl) (fun _ _ _ h => h) (Or.inl ⟨by kernel_rfl, ?y2⟩) (by assumption) ?_
  case y2 => (intro w' hSw; (try dsimp only at hSw); go_simp; try with_reducible rfl)
  try simp only [Act.put, List.setIfInBounds_toArray, List.set_cons_zero, List.set_cons_succ]
  refine wpAnyH_take_d (i := 2) (d := some 17) (v := ?v3) rfl rfl (by kernel_rfl) (by kernel_rfl) (by kernel_rfl) (fun _ _ _ h => h) (Or.inl ⟨by kernel_rfl, ?y3⟩) (by assumption) ?_
  case y3 => (intro w' hSw; (try dsimp only at hSw); go_simp; try with_reducible rfl)
  try simp only [Act.put, List.setIfInBounds_toArray, List.set_cons_zero, List.set_cons_succ]
  refine wpAnyH_ready (rs := [3]) (by kernel_rfl) (by simp) ?_
  refine AllReadyH.cons rfl (fun K hK => ?_) AllReadyH.nil
  go_simp
  refine (ce _).mono ?_; rintro e w1 ⟨rfl, hb1⟩; have z1 := hb1.size; (try simp only [World.size_alloc, World.size_setCell, World.size_drew] at z1)
  refine hK.out _ _ ?s4 (fun hHeld4 => ?_)
  case s4 => ((try dsimp only); (first | go_keep | (obtain ⟨hq, _⟩ := bcell ‹Below _ _ _›; (repeat' apply And.intro) <;> (rw [hq _ _ (by first | assumption | omega | (simp; done) | (simp; omega) | (simp; assumption))] <;> (first | assumption | (simp [*]; done))))))
  clear hK K hHeld
  have hHeld := hHeld4; clear hHeld4
  try simp only [Act.put, List.setIfInBounds_toArray, List.set_cons_zero, List.set_cons_succ]
  refine wpAnyH_ready (rs := [4]) (by kernel_rfl) (by simp) ?_
  refine AllReadyH.cons rfl (fun K hK => ?_) AllReadyH.nil
  go_simp
  refine (cg _ (by (repeat' (first | (with_reducible exact Below.refl _ _) | (with_reducible assumption) | (with_reducible refine Below.alloc ?_ ?_ _) | (with_reducible refine Below.drew ?_) | (with_reducible refine below_drewN ?_ _) | (with_reducible refine Below.setCell ?_ ?_ _) | (with_reducible refine Below.trans ?_ (Below.mono (by assumption) ?_)) | (first | omega | (simp only [World.size_alloc, World.size_setCell, World.size_drew]; omega) | (simp; omega) | (simp; done)))))).mono ?_; rintro e w4 ⟨rfl, hb4⟩; have z4 := hb4.size; (try simp only [World.size_alloc, World.size_setCell, World.size_drew] at z4)
  refine hK.out _ _ ?s5 (fun hHeld5 => ?_)
  case s5 => ((try dsimp only); (first | go_keep | (obtain ⟨hq, _⟩ := bcell ‹Below _ _ _›; (repeat' apply And.intro) <;> (rw [hq _ _ (by first | assumption | omega | (simp; done) | (simp; omega) | (simp; assumption))] <;> (first | assumption | (simp [*]; done))))))
  clear hK K hHeld
  have hHeld := hHeld5; clear hHeld5
  try simp only [Act.put, List.setIfInBounds_toArray, List.set_cons_zero, List.set_cons_succ]
  refine wpAnyH_take_d (i := 5) (d := some 6) (v := ?v6) rfl rfl (by kernel_rfl) (by kernel_rfl) (by kernel_rfl) (fun _ _ _ h => h) (Or.inl ⟨by kernel_rfl, ?y6⟩) (by assumption) ?_
  case y6 => (intro w' hSw; (try dsimp only at hSw); go_simp; try with_reducible rfl)
  try simp only [Act.put, List.setIfInBounds_toArray, List.set_cons_zero, List.set_cons_succ]
  refine wpAnyH_done (by kernel_rfl) ?_ _
  refine NoPanic.normal ?_
  clear hHeld
  have b4 : Below ((w.alloc (.cells #[.int .i64 n, .slice A L c] 28)).alloc (.cells #[.int .i64 0, .slice none 0 0] 28)).heap.size ((w.alloc (.cells #[.int .i64 n, .slice A L c] 28)).alloc (.cells #[.int .i64 0, .slice none 0 0] 28)) w4 := by (repeat' (first | (with_reducible exact Below.refl _ _) | (with_reducible assumption) | (with_reducible refine Below.alloc ?_ ?_ _) | (with_reducible refine Below.drew ?_) | (with_reducible refine below_drewN ?_ _) | (with_reducible refine Below.setCell ?_ ?_ _) | (with_reducible refine Below.trans ?_ (Below.mono (by assumption) ?_)) | (first | omega | (simp only [World.size_alloc, World.size_setCell, World.size_drew]; omega) | (simp; omega) | (simp; done))))
  have HG4 := Lib.hid (((Blk.new w _ _).alloc _).below b4 (by simp <;> omega) : Blk w4 w.heap.size 28 #[.int .i64 n, .slice A L c])
  have HZ4 := Lib.hid ((Blk.new' (n := w.heap.size + 1) _ (by simp)).below b4 (by simp) : Blk w4 (w.heap.size + 1) 28 #[.int .i64 0, .slice none 0 0])
  have Hb4 : Hid (Below w.heap.size w w4) := by show Below _ _ _; exact Below.trans (b := ((w.alloc (.cells #[.int .i64 n, .slice A L c] 28)).alloc (.cells #[.int .i64 0, .slice none 0 0] 28))) (by (repeat' (first | (with_reducible exact Below.refl _ _) | (with_reducible assumption) | (with_reducible refine Below.alloc ?_ ?_ _) | (with_reducible refine Below.drew ?_) | (with_reducible refine below_drewN ?_ _) | (with_reducible refine Below.setCell ?_ ?_ _) | (with_reducible refine Below.trans ?_ (Below.mono (by assumption) ?_)) | (first | omega | (simp only [World.size_alloc, World.size_setCell, World.size_drew]; omega) | (simp; omega) | (simp; done))))) (b4.mono (by simp; omega))
  clear b4
  have x0 := HZ4.out.cellAt 0 _ rfl
  have x1 : (w4.setCell ⟨w.heap.size + 1, 0, none⟩ (.int .i64 0)).cell? ⟨w.heap.size + 1, 1, none⟩ = some (.slice none 0 0) := (sc_other (by simp)).trans (HZ4.out.cellAt 1 _ rfl)
  have f0 := HZ4.out.frozen 0
  have f1 := HZ4.out.frozen 1
  go_wp2
  refine ret_cell_tmp Tryz.results8 Tryz.underlying28 rfl (by kernel_rfl) rfl ((HZ4.out.set_ 0 (.int .i64 0)).set_ 1 (.slice none 0 0)) rfl rfl ⟨⟨none, 0, rfl, FrE.nil⟩, (Hb4.out.setCell (by show w.heap.size ≤ w.heap.size + 1; omega) _).setCell (by show w.heap.size ≤ w.heap.size + 1; omega) _⟩

set_option maxHeartbeats 8000000 in
/-- More than one edge joins the ends. -/
theorem implCut_j (n : Int) (A : Option Addr) (c : Nat) (es : List (Int × Int)) (k u v : Nat) (w : World) (N : Nat) (hl : es.length ≤ 1000) (hN : N ≤ 60) (hn : 2 ≤ n ∧ n ≤ 60) (hin : InN N es) (hr : RdE w A es) (hk : k < es.length) (hxy : es.getD k (0, 0) = ((u : Int), (v : Int))) (huv : u < 60 ∧ v < 60) (hq : Hid (isGraphB n es = true)) (he : Hid (inB (k : Int) 0 ((es.length : Int) - 1) = true)) (hj : joinN es u v ≠ 1) :
    Calls Tryz.prog 8 #[.agg #[.int .i64 n, .slice A es.length c], .int .i64 (k : Int)] w fun e w' => RetG w' w.heap.size e 0 [] 5 ∧ Below w.heap.size w w' := by
  obtain ⟨bA, oA, rfl, hbA, hcA'⟩ := hr.pos (by omega)
  have hcA := hcA' k hk
  have ce := fun W => isEdge_b n (some ⟨bA, oA, none⟩) es.length c (k : Int) W true he (by omega)
  have cg := fun W (hW : Below w.heap.size w W) => graphCode_b n (some ⟨bA, oA, none⟩) c es W true true hq (by omega) (hr.below hW)
  rw [show gcode true true = 0 from rfl] at cg
  have C1 := Lib.hid fun W (hW : Below w.heap.size w W) => joins_b n (some ⟨bA, oA, none⟩) c es N u v W (by omega) (by omega) hin (by omega) (hr.below hW)
  obtain ⟨j, Hj⟩ : ∃ j : Nat, Hid (joinN es u v = j) := ⟨_, rfl⟩
  rw [Hj.out] at hj C1
  have g2 : ((j : Int) != 1) = true := by simp; omega
  obtain ⟨L, HL⟩ : ∃ L, Hid (es.length = L) := ⟨_, rfl⟩
  rw [HL.out] at ce cg C1 hk hl ⊢
  obtain ⟨ek, ek2, ek3⟩ := idxF k L hk
  clear hr hq he hin hn hj Hj hcA' hN huv
  go_enter Tryz.func8, Tryz.ntmps8
  go_wp2
  refine wp_region_noPanic ?_
  refine wp_region_held_drew (S := (fun w' => w'.cell? ⟨w.heap.size, 0, none⟩ = some (.int .i64 n) ∧ w'.cell? ⟨w.heap.size, 1, none⟩ = some (.slice (some ⟨bA, oA, none⟩) L c))) (by kernel_rfl) ?_ (fun hHeld => ?_)
  · (try dsimp only); (first | go_keep | (obtain ⟨hq, _⟩ := bcell ‹Below _ _ _›; (repeat' apply And.intro) <;> (rw [hq _ _ (by first | assumption | omega | (simp; done) | (simp; omega) | (simp; assumption))] <;> (first | assumption | (simp [*]; done)))))
  refine wpAnyH_take_d (i := 0) (d := some 15) (v := ?v7) rfl rfl (by kernel_rfl) (by kernel_rfl) (by kernel_rfl) (fun _ _ _ h => h) (Or.inl ⟨by kernel_rfl, ?y7⟩) (by assumption) ?_
  case y7 => (intro w' hSw; (try dsimp only at hSw); go_simp; try with_reducible rfl)
  try simp only [Act.put, List.setIfInBounds_toArray, List.set_cons_zero, List.set_cons_succ]
  refine wpAnyH_take_d (i := 1) (d := some 16) (v := ?v8) rfl rfl (by kernel_rfl) (by kernel_rfl) (by kernel_rfl) (fun _ _ _ h => h) (Or.inl ⟨by kernel_rfl, ?y8⟩) (by assumption) ?_
  case y8 => (intro w' hSw; (try dsimp only at hSw); go_simp; try with_reducible rfl)
  try simp only [Act.put, List.setIfInBounds_toArray, List.set_cons_zero, List.set_cons_succ]
  refine wpAnyH_take_d (i := 2) (d := some 17) (v := ?v9) rfl rfl (by kernel_rfl) (by kernel_rfl) (by kernel_rfl) (fun _ _ _ h => h) (Or.inl ⟨by kernel_rfl, ?y9⟩) (by assumption) ?_
  case y9 => (intro w' hSw; (try dsimp only at hSw); go_simp; try with_reducible rfl)
  try simp only [Act.put, List.setIfInBounds_toArray, List.set_cons_zero, List.set_cons_succ]
  refine wpAnyH_ready (rs := [3]) (by kernel_rfl) (by simp) ?_
  refine AllReadyH.cons rfl (fun K hK => ?_) AllReadyH.nil
  go_simp
  refine (ce _).mono ?_; rintro e w1 ⟨rfl, hb1⟩; have z1 := hb1.size; (try simp only [World.size_alloc, World.size_setCell, World.size_drew] at z1)
  refine hK.out _ _ ?s10 (fun hHeld10 => ?_)
  case s10 => ((try dsimp only); (first | go_keep | (obtain ⟨hq, _⟩ := bcell ‹Below _ _ _›; (repeat' apply And.intro) <;> (rw [hq _ _ (by first | assumption | omega | (simp; done) | (simp; omega) | (simp; assumption))] <;> (first | assumption | (simp [*]; done))))))
  clear hK K hHeld
  have hHeld := hHeld10; clear hHeld10
  try simp only [Act.put, List.setIfInBounds_toArray, List.set_cons_zero, List.set_cons_succ]
  refine wpAnyH_ready (rs := [4]) (by kernel_rfl) (by simp) ?_
  refine AllReadyH.cons rfl (fun K hK => ?_) AllReadyH.nil
  go_simp
  refine (cg _ (by (repeat' (first | (with_reducible exact Below.refl _ _) | (with_reducible assumption) | (with_reducible refine Below.alloc ?_ ?_ _) | (with_reducible refine Below.drew ?_) | (with_reducible refine below_drewN ?_ _) | (with_reducible refine Below.setCell ?_ ?_ _) | (with_reducible refine Below.trans ?_ (Below.mono (by assumption) ?_)) | (first | omega | (simp only [World.size_alloc, World.size_setCell, World.size_drew]; omega) | (simp; omega) | (simp; done)))))).mono ?_; rintro e w4 ⟨rfl, hb4⟩; have z4 := hb4.size; (try simp only [World.size_alloc, World.size_setCell, World.size_drew] at z4)
  refine hK.out _ _ ?s11 (fun hHeld11 => ?_)
  case s11 => ((try dsimp only); (first | go_keep | (obtain ⟨hq, _⟩ := bcell ‹Below _ _ _›; (repeat' apply And.intro) <;> (rw [hq _ _ (by first | assumption | omega | (simp; done) | (simp; omega) | (simp; assumption))] <;> (first | assumption | (simp [*]; done))))))
  clear hK K hHeld
  have hHeld := hHeld11; clear hHeld11
  try simp only [Act.put, List.setIfInBounds_toArray, List.set_cons_zero, List.set_cons_succ]
  refine wpAnyH_take_d (i := 5) (d := some 6) (v := ?v12) rfl rfl (by kernel_rfl) (by kernel_rfl) (by kernel_rfl) (fun _ _ _ h => h) (Or.inl ⟨by kernel_rfl, ?y12⟩) (by assumption) ?_
  case y12 => (intro w' hSw; (try dsimp only at hSw); go_simp; try with_reducible rfl)
  try simp only [Act.put, List.setIfInBounds_toArray, List.set_cons_zero, List.set_cons_succ]
  refine wpAnyH_done (by kernel_rfl) ?_ _
  refine NoPanic.normal ?_
  clear hHeld
  have b4 : Below ((w.alloc (.cells #[.int .i64 n, .slice (some ⟨bA, oA, none⟩) L c] 28)).alloc (.cells #[.int .i64 0, .slice none 0 0] 28)).heap.size ((w.alloc (.cells #[.int .i64 n, .slice (some ⟨bA, oA, none⟩) L c] 28)).alloc (.cells #[.int .i64 0, .slice none 0 0] 28)) w4 := by (repeat' (first | (with_reducible exact Below.refl _ _) | (with_reducible assumption) | (with_reducible refine Below.alloc ?_ ?_ _) | (with_reducible refine Below.drew ?_) | (with_reducible refine below_drewN ?_ _) | (with_reducible refine Below.setCell ?_ ?_ _) | (with_reducible refine Below.trans ?_ (Below.mono (by assumption) ?_)) | (first | omega | (simp only [World.size_alloc, World.size_setCell, World.size_drew]; omega) | (simp; omega) | (simp; done))))
  have HG4 := Lib.hid (((Blk.new w _ _).alloc _).below b4 (by simp <;> omega) : Blk w4 w.heap.size 28 #[.int .i64 n, .slice (some ⟨bA, oA, none⟩) L c])
  have HZ4 := Lib.hid ((Blk.new' (n := w.heap.size + 1) _ (by simp)).below b4 (by simp) : Blk w4 (w.heap.size + 1) 28 #[.int .i64 0, .slice none 0 0])
  have Hb4 : Hid (Below w.heap.size w w4) := by show Below _ _ _; exact Below.trans (b := ((w.alloc (.cells #[.int .i64 n, .slice (some ⟨bA, oA, none⟩) L c] 28)).alloc (.cells #[.int .i64 0, .slice none 0 0] 28))) (by (repeat' (first | (with_reducible exact Below.refl _ _) | (with_reducible assumption) | (with_reducible refine Below.alloc ?_ ?_ _) | (with_reducible refine Below.drew ?_) | (with_reducible refine below_drewN ?_ _) | (with_reducible refine Below.setCell ?_ ?_ _) | (with_reducible refine Below.trans ?_ (Below.mono (by assumption) ?_)) | (first | omega | (simp only [World.size_alloc, World.size_setCell, World.size_drew]; omega) | (simp; omega) | (simp; done))))) (b4.mono (by simp; omega))
  clear b4
  have k0 := HG4.out.cellAt 0 _ rfl
  have k1 := HG4.out.cellAt 1 _ rfl
  have z9 := HZ4.out.lt
  have e0 := ((bcell Hb4.out).1 bA (oA + k * 2) hbA).trans hcA.1
  have e1 := ((bcell Hb4.out).1 bA (oA + k * 2 + 1) hbA).trans hcA.2
  rw [hxy] at e0 e1
  dsimp only at e0 e1
  go_wp2
  refine wp_region_noPanic ?_
  refine wp_region_held_drew (S := (fun w' => w'.cell? ⟨w.heap.size, 0, none⟩ = some (.int .i64 n) ∧ w'.cell? ⟨w.heap.size, 1, none⟩ = some (.slice (some ⟨bA, oA, none⟩) L c) ∧ w'.cell? ⟨bA, oA + k * 2, none⟩ = some (.int .i64 u) ∧ w'.cell? ⟨bA, oA + k * 2 + 1, none⟩ = some (.int .i64 v))) (by kernel_rfl) ?_ (fun hHeld => ?_)
  · (try dsimp only); (first | exact ⟨k0, k1, e0, e1⟩ | assumption | (first | go_keep | (obtain ⟨hq, _⟩ := bcell ‹Below _ _ _›; (repeat' apply And.intro) <;> (rw [hq _ _ (by first | assumption | omega | (simp; done) | (simp; omega) | (simp; assumption))] <;> (first | assumption | (simp [*]; done))))))
  refine wpAnyH_take_d (i := 0) (d := some 24) (v := ?v13) rfl rfl (by kernel_rfl) (by kernel_rfl) (by kernel_rfl) (fun _ _ _ h => h) (Or.inl ⟨by kernel_rfl, ?y13⟩) (by assumption) ?_
  case y13 => (intro w' hSw; (try dsimp only at hSw); go_simp; try with_reducible rfl)
  try simp only [Act.put, List.setIfInBounds_toArray, List.set_cons_zero, List.set_cons_succ]
  refine wpAnyH_take_d (i := 1) (d := some 25) (v := ?v14) rfl rfl (by kernel_rfl) (by kernel_rfl) (by kernel_rfl) (fun _ _ _ h => h) (Or.inl ⟨by kernel_rfl, ?y14⟩) (by assumption) ?_
  case y14 => (intro w' hSw; (try dsimp only at hSw); go_simp; try with_reducible rfl)
  try simp only [Act.put, List.setIfInBounds_toArray, List.set_cons_zero, List.set_cons_succ]
  refine wpAnyH_take_d (i := 2) (d := some 26) (v := ?v15) rfl rfl (by kernel_rfl) (by kernel_rfl) (by kernel_rfl) (fun _ _ _ h => h) (Or.inl ⟨by kernel_rfl, ?y15⟩) (by assumption) ?_
  case y15 => (intro w' hSw; (try dsimp only at hSw); go_simp; try with_reducible rfl)
  try simp only [Act.put, List.setIfInBounds_toArray, List.set_cons_zero, List.set_cons_succ]
  refine wpAnyH_take_d (i := 3) (d := some 27) (v := ?v16) rfl rfl (by kernel_rfl) (by kernel_rfl) (by kernel_rfl) (fun _ _ _ h => h) (Or.inl ⟨by kernel_rfl, ?y16⟩) (by assumption) ?_
  case y16 => (intro w' hSw; (try dsimp only at hSw); go_simp; try with_reducible rfl)
  try simp only [Act.put, List.setIfInBounds_toArray, List.set_cons_zero, List.set_cons_succ]
  refine wpAnyH_take_d (i := 4) (d := some 28) (v := ?v17) rfl rfl (by kernel_rfl) (by kernel_rfl) (by kernel_rfl) (fun _ _ _ h => h) (Or.inl ⟨by kernel_rfl, ?y17⟩) (by assumption) ?_
  case y17 => (intro w' hSw; (try dsimp only at hSw); go_simp; try with_reducible rfl)
  try simp only [Act.put, List.setIfInBounds_toArray, List.set_cons_zero, List.set_cons_succ]
  refine wpAnyH_take_d (i := 5) (d := some 29) (v := ?v18) rfl rfl (by kernel_rfl) (by kernel_rfl) (by kernel_rfl) (fun _ _ _ h => h) (Or.inl ⟨by kernel_rfl, ?y18⟩) (by assumption) ?_
  case y18 => (intro w' hSw; (try dsimp only at hSw); go_simp; try with_reducible rfl)
  try simp only [Act.put, List.setIfInBounds_toArray, List.set_cons_zero, List.set_cons_succ]
  refine wpAnyH_take_d (i := 6) (d := some 30) (v := ?v19) rfl rfl (by kernel_rfl) (by kernel_rfl) (by kernel_rfl) (fun _ _ _ h => h) (Or.inl ⟨by kernel_rfl, ?y19⟩) (by assumption) ?_
  case y19 => (intro w' hSw; (try dsimp only at hSw); go_simp; try with_reducible rfl)
  try simp only [Act.put, List.setIfInBounds_toArray, List.set_cons_zero, List.set_cons_succ]
  refine wpAnyH_take_d (i := 7) (d := some 31) (v := ?v20) rfl rfl (by kernel_rfl) (by kernel_rfl) (by kernel_rfl) (fun _ _ _ h => h) (Or.inl ⟨by kernel_rfl, ?y20⟩) (by assumption) ?_
  case y20 => (intro w' hSw; (try dsimp only at hSw); go_simp; try with_reducible rfl)
  try simp only [Act.put, List.setIfInBounds_toArray, List.set_cons_zero, List.set_cons_succ]
  refine wpAnyH_take_d (i := 8) (d := some 32) (v := ?v21) rfl rfl (by kernel_rfl) (by kernel_rfl) (by kernel_rfl) (fun _ _ _ h => h) (Or.inl ⟨by kernel_rfl, ?y21⟩) (by assumption) ?_
  case y21 => (intro w' hSw; (try dsimp only at hSw); go_simp; try with_reducible rfl)
  try simp only [Act.put, List.setIfInBounds_toArray, List.set_cons_zero, List.set_cons_succ]
  refine wpAnyH_take_d (i := 9) (d := some 33) (v := ?v22) rfl rfl (by kernel_rfl) (by kernel_rfl) (by kernel_rfl) (fun _ _ _ h => h) (Or.inl ⟨by kernel_rfl, ?y22⟩) (by assumption) ?_
  case y22 => (intro w' hSw; (try dsimp only at hSw); go_simp; try with_reducible rfl)
  try simp only [Act.put, List.setIfInBounds_toArray, List.set_cons_zero, List.set_cons_succ]
  refine wpAnyH_take_d (i := 10) (d := some 34) (v := ?v23) rfl rfl (by kernel_rfl) (by kernel_rfl) (by kernel_rfl) (fun _ _ _ h => h) (Or.inl ⟨by kernel_rfl, ?y23⟩) (by assumption) ?_
  case y23 => (intro w' hSw; (try dsimp only at hSw); go_simp; try with_reducible rfl)
  try simp only [Act.put, List.setIfInBounds_toArray, List.set_cons_zero, List.set_cons_succ]
  refine wpAnyH_take_d (i := 11) (d := some 35) (v := ?v24) rfl rfl (by kernel_rfl) (by kernel_rfl) (by kernel_rfl) (fun _ _ _ h => h) (Or.inl ⟨by kernel_rfl, ?y24⟩) (by assumption) ?_
  case y24 => (intro w' hSw; (try dsimp only at hSw); go_simp; try with_reducible rfl)
  try simp only [Act.put, List.setIfInBounds_toArray, List.set_cons_zero, List.set_cons_succ]
  refine wpAnyH_take_d (i := 12) (d := some 7) (v := ?v25) rfl rfl (by kernel_rfl) (by kernel_rfl) (by kernel_rfl) (fun _ _ _ h => h) (Or.inl ⟨by kernel_rfl, ?y25⟩) (by assumption) ?_
  case y25 => (intro w' hSw; (try dsimp only at hSw); go_simp; try with_reducible rfl)
  try simp only [Act.put, List.setIfInBounds_toArray, List.set_cons_zero, List.set_cons_succ]
  refine wpAnyH_take_d (i := 13) (d := some 8) (v := ?v26) rfl rfl (by kernel_rfl) (by kernel_rfl) (by kernel_rfl) (fun _ _ _ h => h) (Or.inl ⟨by kernel_rfl, ?y26⟩) (by assumption) ?_
  case y26 => (intro w' hSw; (try dsimp only at hSw); go_simp; try with_reducible rfl)
  try simp only [Act.put, List.setIfInBounds_toArray, List.set_cons_zero, List.set_cons_succ]
  refine wpAnyH_done (by kernel_rfl) ?_ _
  refine NoPanic.normal ?_
  clear hHeld e0 e1
  obtain ⟨w5, hw5⟩ : ∃ x, x = w4.drew := ⟨_, rfl⟩
  have hb5 : Below w4.heap.size w4 w5 := by rw [hw5]; exact Below.drew (Below.refl _ _)
  rw [← hw5]
  clear hw5
  have HG5 := Lib.hid (HG4.out.below hb5 (by have := HZ4.out.lt; omega))
  have HZ5 := Lib.hid (HZ4.out.below hb5 HZ4.out.lt)
  have Hb5 : Hid (Below w.heap.size w w5) := Hb4.out.trans (hb5.mono (by have := HZ4.out.lt; omega))
  clear k0 k1 z9 HG4 HZ4 Hb4
  have k0 := HG5.out.cellAt 0 _ rfl
  have k1 := HG5.out.cellAt 1 _ rfl
  have z9 := HZ5.out.lt
  clear hb5
  go_wp2_with fail
  refine (C1.out w5 Hb5.out).mono ?_
  rintro e w6 ⟨rfl, hb6⟩
  have HG6 := Lib.hid (HG5.out.below hb6 (by have := HZ5.out.lt; omega))
  have HZ6 := Lib.hid (HZ5.out.below hb6 HZ5.out.lt)
  have Hb6 : Hid (Below w.heap.size w w6) := Hb5.out.trans (hb6.mono (by have := HZ5.out.lt; omega))
  clear k0 k1 z9 HG5 HZ5 Hb5
  have k0 := HG6.out.cellAt 0 _ rfl
  have k1 := HG6.out.cellAt 1 _ rfl
  have z9 := HZ6.out.lt
  clear hb6
  have x0 := HZ6.out.cellAt 0 _ rfl
  have x1 : (w6.setCell ⟨w.heap.size + 1, 0, none⟩ (.int .i64 0)).cell? ⟨w.heap.size + 1, 1, none⟩ = some (.slice none 0 0) := (sc_other (by simp)).trans (HZ6.out.cellAt 1 _ rfl)
  have f0 := HZ6.out.frozen 0
  have f1 := HZ6.out.frozen 1
  go_wp2
  refine ret_cell_tmp Tryz.results8 Tryz.underlying28 rfl (by kernel_rfl) rfl ((HZ6.out.set_ 0 (.int .i64 0)).set_ 1 (.slice none 0 0)) rfl rfl ⟨⟨none, 0, rfl, FrE.nil⟩, (Hb6.out.setCell (by show w.heap.size ≤ w.heap.size + 1; omega) _).setCell (by show w.heap.size ≤ w.heap.size + 1; omega) _⟩

set_option maxHeartbeats 8000000 in
/-- The other ends are one. -/
theorem implCut_two (n : Int) (A : Option Addr) (c : Nat) (es : List (Int × Int)) (k u v : Nat) (w : World) (N : Nat) (hl : es.length ≤ 1000) (hN : N ≤ 60) (hn : 2 ≤ n ∧ n ≤ 60) (hin : InN N es) (hr : RdE w A es) (hk : k < es.length) (hxy : es.getD k (0, 0) = ((u : Int), (v : Int))) (huv : u < 60 ∧ v < 60) (hq : Hid (isGraphB n es = true)) (he : Hid (inB (k : Int) 0 ((es.length : Int) - 1) = true)) (hj : joinN es u v = 1) (x0 x1 y0 y1 : Nat) (hUA : upI (butL es u v) = [(x0 : Int), (x1 : Int)]) (hUB : upI (butL es v u) = [(y0 : Int), (y1 : Int)]) (h : x0 = x1 ∨ (x0 ≠ x1 ∧ y0 = y1)) :
    Calls Tryz.prog 8 #[.agg #[.int .i64 n, .slice A es.length c], .int .i64 (k : Int)] w fun e w' => RetG w' w.heap.size e 0 [] 5 ∧ Below w.heap.size w w' := by
  obtain ⟨bA, oA, rfl, hbA, hcA'⟩ := hr.pos (by omega)
  have hcA := hcA' k hk
  have ce := fun W => isEdge_b n (some ⟨bA, oA, none⟩) es.length c (k : Int) W true he (by omega)
  have cg := fun W (hW : Below w.heap.size w W) => graphCode_b n (some ⟨bA, oA, none⟩) c es W true true hq (by omega) (hr.below hW)
  rw [show gcode true true = 0 from rfl] at cg
  have C1 := Lib.hid fun W (hW : Below w.heap.size w W) => joins_b n (some ⟨bA, oA, none⟩) c es N u v W (by omega) (by omega) hin (by omega) (hr.below hW)
  have hlU : (upI (butL es u v)).length = 2 := by rw [hUA]; rfl
  have hlV : (upI (butL es v u)).length = 2 := by rw [hUB]; rfl
  rw [upI_len] at hlU hlV
  have c2 := fun W (hW : Below w.heap.size w W) => othersAt_b n (some ⟨bA, oA, none⟩) c es N u v W hl (by omega) hin (by omega) (by have := hlU; unfold butL at this; have h9 := List.length_filter_le (fun x : Int => !decide (x = (v : Int))) (endsL es u); omega) (by omega) (hr.below hW)
  have c3 := fun W (hW : Below w.heap.size w W) => othersAt_b n (some ⟨bA, oA, none⟩) c es N v u W hl (by omega) hin (by omega) (by have := hlV; unfold butL at this; have h9 := List.length_filter_le (fun x : Int => !decide (x = (u : Int))) (endsL es v); omega) (by omega) (hr.below hW)
  rw [hlU, hUA] at c2
  rw [hlV, hUB] at c3
  have C2 := Lib.hid c2
  have C3 := Lib.hid c3
  obtain ⟨j, Hj⟩ : ∃ j : Nat, Hid (joinN es u v = j) := ⟨_, rfl⟩
  rw [Hj.out] at hj C1
  have g2 : ((j : Int) != 1) = false := by simp; omega
  obtain ⟨L, HL⟩ : ∃ L, Hid (es.length = L) := ⟨_, rfl⟩
  rw [HL.out] at ce cg C1 C2 C3 hk hl ⊢
  obtain ⟨ek, ek2, ek3⟩ := idxF k L hk
  clear c2 c3 hr hq he hin hn hj Hj hcA' hN huv hUA hUB hlU hlV
  go_enter Tryz.func8, Tryz.ntmps8
  go_wp2
  refine wp_region_noPanic ?_
  refine wp_region_held_drew (S := (fun w' => w'.cell? ⟨w.heap.size, 0, none⟩ = some (.int .i64 n) ∧ w'.cell? ⟨w.heap.size, 1, none⟩ = some (.slice (some ⟨bA, oA, none⟩) L c))) (by kernel_rfl) ?_ (fun hHeld => ?_)
  · (try dsimp only); (first | go_keep | (obtain ⟨hq, _⟩ := bcell ‹Below _ _ _›; (repeat' apply And.intro) <;> (rw [hq _ _ (by first | assumption | omega | (simp; done) | (simp; omega) | (simp; assumption))] <;> (first | assumption | (simp [*]; done)))))
  refine wpAnyH_take_d (i := 0) (d := some 15) (v := ?v27) rfl rfl (by kernel_rfl) (by kernel_rfl) (by kernel_rfl) (fun _ _ _ h => h) (Or.inl ⟨by kernel_rfl, ?y27⟩) (by assumption) ?_
  case y27 => (intro w' hSw; (try dsimp only at hSw); go_simp; try with_reducible rfl)
  try simp only [Act.put, List.setIfInBounds_toArray, List.set_cons_zero, List.set_cons_succ]
  refine wpAnyH_take_d (i := 1) (d := some 16) (v := ?v28) rfl rfl (by kernel_rfl) (by kernel_rfl) (by kernel_rfl) (fun _ _ _ h => h) (Or.inl ⟨by kernel_rfl, ?y28⟩) (by assumption) ?_
  case y28 => (intro w' hSw; (try dsimp only at hSw); go_simp; try with_reducible rfl)
  try simp only [Act.put, List.setIfInBounds_toArray, List.set_cons_zero, List.set_cons_succ]
  refine wpAnyH_take_d (i := 2) (d := some 17) (v := ?v29) rfl rfl (by kernel_rfl) (by kernel_rfl) (by kernel_rfl) (fun _ _ _ h => h) (Or.inl ⟨by kernel_rfl, ?y29⟩) (by assumption) ?_
  case y29 => (intro w' hSw; (try dsimp only at hSw); go_simp; try with_reducible rfl)
  try simp only [Act.put, List.setIfInBounds_toArray, List.set_cons_zero, List.set_cons_succ]
  refine wpAnyH_ready (rs := [3]) (by kernel_rfl) (by simp) ?_
  refine AllReadyH.cons rfl (fun K hK => ?_) AllReadyH.nil
  go_simp
  refine (ce _).mono ?_; rintro e w1 ⟨rfl, hb1⟩; have z1 := hb1.size; (try simp only [World.size_alloc, World.size_setCell, World.size_drew] at z1)
  refine hK.out _ _ ?s30 (fun hHeld30 => ?_)
  case s30 => ((try dsimp only); (first | go_keep | (obtain ⟨hq, _⟩ := bcell ‹Below _ _ _›; (repeat' apply And.intro) <;> (rw [hq _ _ (by first | assumption | omega | (simp; done) | (simp; omega) | (simp; assumption))] <;> (first | assumption | (simp [*]; done))))))
  clear hK K hHeld
  have hHeld := hHeld30; clear hHeld30
  try simp only [Act.put, List.setIfInBounds_toArray, List.set_cons_zero, List.set_cons_succ]
  refine wpAnyH_ready (rs := [4]) (by kernel_rfl) (by simp) ?_
  refine AllReadyH.cons rfl (fun K hK => ?_) AllReadyH.nil
  go_simp
  refine (cg _ (by (repeat' (first | (with_reducible exact Below.refl _ _) | (with_reducible assumption) | (with_reducible refine Below.alloc ?_ ?_ _) | (with_reducible refine Below.drew ?_) | (with_reducible refine below_drewN ?_ _) | (with_reducible refine Below.setCell ?_ ?_ _) | (with_reducible refine Below.trans ?_ (Below.mono (by assumption) ?_)) | (first | omega | (simp only [World.size_alloc, World.size_setCell, World.size_drew]; omega) | (simp; omega) | (simp; done)))))).mono ?_; rintro e w4 ⟨rfl, hb4⟩; have z4 := hb4.size; (try simp only [World.size_alloc, World.size_setCell, World.size_drew] at z4)
  refine hK.out _ _ ?s31 (fun hHeld31 => ?_)
  case s31 => ((try dsimp only); (first | go_keep | (obtain ⟨hq, _⟩ := bcell ‹Below _ _ _›; (repeat' apply And.intro) <;> (rw [hq _ _ (by first | assumption | omega | (simp; done) | (simp; omega) | (simp; assumption))] <;> (first | assumption | (simp [*]; done))))))
  clear hK K hHeld
  have hHeld := hHeld31; clear hHeld31
  try simp only [Act.put, List.setIfInBounds_toArray, List.set_cons_zero, List.set_cons_succ]
  refine wpAnyH_take_d (i := 5) (d := some 6) (v := ?v32) rfl rfl (by kernel_rfl) (by kernel_rfl) (by kernel_rfl) (fun _ _ _ h => h) (Or.inl ⟨by kernel_rfl, ?y32⟩) (by assumption) ?_
  case y32 => (intro w' hSw; (try dsimp only at hSw); go_simp; try with_reducible rfl)
  try simp only [Act.put, List.setIfInBounds_toArray, List.set_cons_zero, List.set_cons_succ]
  refine wpAnyH_done (by kernel_rfl) ?_ _
  refine NoPanic.normal ?_
  clear hHeld
  have b4 : Below ((w.alloc (.cells #[.int .i64 n, .slice (some ⟨bA, oA, none⟩) L c] 28)).alloc (.cells #[.int .i64 0, .slice none 0 0] 28)).heap.size ((w.alloc (.cells #[.int .i64 n, .slice (some ⟨bA, oA, none⟩) L c] 28)).alloc (.cells #[.int .i64 0, .slice none 0 0] 28)) w4 := by (repeat' (first | (with_reducible exact Below.refl _ _) | (with_reducible assumption) | (with_reducible refine Below.alloc ?_ ?_ _) | (with_reducible refine Below.drew ?_) | (with_reducible refine below_drewN ?_ _) | (with_reducible refine Below.setCell ?_ ?_ _) | (with_reducible refine Below.trans ?_ (Below.mono (by assumption) ?_)) | (first | omega | (simp only [World.size_alloc, World.size_setCell, World.size_drew]; omega) | (simp; omega) | (simp; done))))
  have HG4 := Lib.hid (((Blk.new w _ _).alloc _).below b4 (by simp <;> omega) : Blk w4 w.heap.size 28 #[.int .i64 n, .slice (some ⟨bA, oA, none⟩) L c])
  have HZ4 := Lib.hid ((Blk.new' (n := w.heap.size + 1) _ (by simp)).below b4 (by simp) : Blk w4 (w.heap.size + 1) 28 #[.int .i64 0, .slice none 0 0])
  have Hb4 : Hid (Below w.heap.size w w4) := by show Below _ _ _; exact Below.trans (b := ((w.alloc (.cells #[.int .i64 n, .slice (some ⟨bA, oA, none⟩) L c] 28)).alloc (.cells #[.int .i64 0, .slice none 0 0] 28))) (by (repeat' (first | (with_reducible exact Below.refl _ _) | (with_reducible assumption) | (with_reducible refine Below.alloc ?_ ?_ _) | (with_reducible refine Below.drew ?_) | (with_reducible refine below_drewN ?_ _) | (with_reducible refine Below.setCell ?_ ?_ _) | (with_reducible refine Below.trans ?_ (Below.mono (by assumption) ?_)) | (first | omega | (simp only [World.size_alloc, World.size_setCell, World.size_drew]; omega) | (simp; omega) | (simp; done))))) (b4.mono (by simp; omega))
  clear b4
  have k0 := HG4.out.cellAt 0 _ rfl
  have k1 := HG4.out.cellAt 1 _ rfl
  have z9 := HZ4.out.lt
  have e0 := ((bcell Hb4.out).1 bA (oA + k * 2) hbA).trans hcA.1
  have e1 := ((bcell Hb4.out).1 bA (oA + k * 2 + 1) hbA).trans hcA.2
  rw [hxy] at e0 e1
  dsimp only at e0 e1
  go_wp2
  refine wp_region_noPanic ?_
  refine wp_region_held_drew (S := (fun w' => w'.cell? ⟨w.heap.size, 0, none⟩ = some (.int .i64 n) ∧ w'.cell? ⟨w.heap.size, 1, none⟩ = some (.slice (some ⟨bA, oA, none⟩) L c) ∧ w'.cell? ⟨bA, oA + k * 2, none⟩ = some (.int .i64 u) ∧ w'.cell? ⟨bA, oA + k * 2 + 1, none⟩ = some (.int .i64 v))) (by kernel_rfl) ?_ (fun hHeld => ?_)
  · (try dsimp only); (first | exact ⟨k0, k1, e0, e1⟩ | assumption | (first | go_keep | (obtain ⟨hq, _⟩ := bcell ‹Below _ _ _›; (repeat' apply And.intro) <;> (rw [hq _ _ (by first | assumption | omega | (simp; done) | (simp; omega) | (simp; assumption))] <;> (first | assumption | (simp [*]; done))))))
  refine wpAnyH_take_d (i := 0) (d := some 24) (v := ?v33) rfl rfl (by kernel_rfl) (by kernel_rfl) (by kernel_rfl) (fun _ _ _ h => h) (Or.inl ⟨by kernel_rfl, ?y33⟩) (by assumption) ?_
  case y33 => (intro w' hSw; (try dsimp only at hSw); go_simp; try with_reducible rfl)
  try simp only [Act.put, List.setIfInBounds_toArray, List.set_cons_zero, List.set_cons_succ]
  refine wpAnyH_take_d (i := 1) (d := some 25) (v := ?v34) rfl rfl (by kernel_rfl) (by kernel_rfl) (by kernel_rfl) (fun _ _ _ h => h) (Or.inl ⟨by kernel_rfl, ?y34⟩) (by assumption) ?_
  case y34 => (intro w' hSw; (try dsimp only at hSw); go_simp; try with_reducible rfl)
  try simp only [Act.put, List.setIfInBounds_toArray, List.set_cons_zero, List.set_cons_succ]
  refine wpAnyH_take_d (i := 2) (d := some 26) (v := ?v35) rfl rfl (by kernel_rfl) (by kernel_rfl) (by kernel_rfl) (fun _ _ _ h => h) (Or.inl ⟨by kernel_rfl, ?y35⟩) (by assumption) ?_
  case y35 => (intro w' hSw; (try dsimp only at hSw); go_simp; try with_reducible rfl)
  try simp only [Act.put, List.setIfInBounds_toArray, List.set_cons_zero, List.set_cons_succ]
  refine wpAnyH_take_d (i := 3) (d := some 27) (v := ?v36) rfl rfl (by kernel_rfl) (by kernel_rfl) (by kernel_rfl) (fun _ _ _ h => h) (Or.inl ⟨by kernel_rfl, ?y36⟩) (by assumption) ?_
  case y36 => (intro w' hSw; (try dsimp only at hSw); go_simp; try with_reducible rfl)
  try simp only [Act.put, List.setIfInBounds_toArray, List.set_cons_zero, List.set_cons_succ]
  refine wpAnyH_take_d (i := 4) (d := some 28) (v := ?v37) rfl rfl (by kernel_rfl) (by kernel_rfl) (by kernel_rfl) (fun _ _ _ h => h) (Or.inl ⟨by kernel_rfl, ?y37⟩) (by assumption) ?_
  case y37 => (intro w' hSw; (try dsimp only at hSw); go_simp; try with_reducible rfl)
  try simp only [Act.put, List.setIfInBounds_toArray, List.set_cons_zero, List.set_cons_succ]
  refine wpAnyH_take_d (i := 5) (d := some 29) (v := ?v38) rfl rfl (by kernel_rfl) (by kernel_rfl) (by kernel_rfl) (fun _ _ _ h => h) (Or.inl ⟨by kernel_rfl, ?y38⟩) (by assumption) ?_
  case y38 => (intro w' hSw; (try dsimp only at hSw); go_simp; try with_reducible rfl)
  try simp only [Act.put, List.setIfInBounds_toArray, List.set_cons_zero, List.set_cons_succ]
  refine wpAnyH_take_d (i := 6) (d := some 30) (v := ?v39) rfl rfl (by kernel_rfl) (by kernel_rfl) (by kernel_rfl) (fun _ _ _ h => h) (Or.inl ⟨by kernel_rfl, ?y39⟩) (by assumption) ?_
  case y39 => (intro w' hSw; (try dsimp only at hSw); go_simp; try with_reducible rfl)
  try simp only [Act.put, List.setIfInBounds_toArray, List.set_cons_zero, List.set_cons_succ]
  refine wpAnyH_take_d (i := 7) (d := some 31) (v := ?v40) rfl rfl (by kernel_rfl) (by kernel_rfl) (by kernel_rfl) (fun _ _ _ h => h) (Or.inl ⟨by kernel_rfl, ?y40⟩) (by assumption) ?_
  case y40 => (intro w' hSw; (try dsimp only at hSw); go_simp; try with_reducible rfl)
  try simp only [Act.put, List.setIfInBounds_toArray, List.set_cons_zero, List.set_cons_succ]
  refine wpAnyH_take_d (i := 8) (d := some 32) (v := ?v41) rfl rfl (by kernel_rfl) (by kernel_rfl) (by kernel_rfl) (fun _ _ _ h => h) (Or.inl ⟨by kernel_rfl, ?y41⟩) (by assumption) ?_
  case y41 => (intro w' hSw; (try dsimp only at hSw); go_simp; try with_reducible rfl)
  try simp only [Act.put, List.setIfInBounds_toArray, List.set_cons_zero, List.set_cons_succ]
  refine wpAnyH_take_d (i := 9) (d := some 33) (v := ?v42) rfl rfl (by kernel_rfl) (by kernel_rfl) (by kernel_rfl) (fun _ _ _ h => h) (Or.inl ⟨by kernel_rfl, ?y42⟩) (by assumption) ?_
  case y42 => (intro w' hSw; (try dsimp only at hSw); go_simp; try with_reducible rfl)
  try simp only [Act.put, List.setIfInBounds_toArray, List.set_cons_zero, List.set_cons_succ]
  refine wpAnyH_take_d (i := 10) (d := some 34) (v := ?v43) rfl rfl (by kernel_rfl) (by kernel_rfl) (by kernel_rfl) (fun _ _ _ h => h) (Or.inl ⟨by kernel_rfl, ?y43⟩) (by assumption) ?_
  case y43 => (intro w' hSw; (try dsimp only at hSw); go_simp; try with_reducible rfl)
  try simp only [Act.put, List.setIfInBounds_toArray, List.set_cons_zero, List.set_cons_succ]
  refine wpAnyH_take_d (i := 11) (d := some 35) (v := ?v44) rfl rfl (by kernel_rfl) (by kernel_rfl) (by kernel_rfl) (fun _ _ _ h => h) (Or.inl ⟨by kernel_rfl, ?y44⟩) (by assumption) ?_
  case y44 => (intro w' hSw; (try dsimp only at hSw); go_simp; try with_reducible rfl)
  try simp only [Act.put, List.setIfInBounds_toArray, List.set_cons_zero, List.set_cons_succ]
  refine wpAnyH_take_d (i := 12) (d := some 7) (v := ?v45) rfl rfl (by kernel_rfl) (by kernel_rfl) (by kernel_rfl) (fun _ _ _ h => h) (Or.inl ⟨by kernel_rfl, ?y45⟩) (by assumption) ?_
  case y45 => (intro w' hSw; (try dsimp only at hSw); go_simp; try with_reducible rfl)
  try simp only [Act.put, List.setIfInBounds_toArray, List.set_cons_zero, List.set_cons_succ]
  refine wpAnyH_take_d (i := 13) (d := some 8) (v := ?v46) rfl rfl (by kernel_rfl) (by kernel_rfl) (by kernel_rfl) (fun _ _ _ h => h) (Or.inl ⟨by kernel_rfl, ?y46⟩) (by assumption) ?_
  case y46 => (intro w' hSw; (try dsimp only at hSw); go_simp; try with_reducible rfl)
  try simp only [Act.put, List.setIfInBounds_toArray, List.set_cons_zero, List.set_cons_succ]
  refine wpAnyH_done (by kernel_rfl) ?_ _
  refine NoPanic.normal ?_
  clear hHeld e0 e1
  obtain ⟨w5, hw5⟩ : ∃ x, x = w4.drew := ⟨_, rfl⟩
  have hb5 : Below w4.heap.size w4 w5 := by rw [hw5]; exact Below.drew (Below.refl _ _)
  rw [← hw5]
  clear hw5
  have HG5 := Lib.hid (HG4.out.below hb5 (by have := HZ4.out.lt; omega))
  have HZ5 := Lib.hid (HZ4.out.below hb5 HZ4.out.lt)
  have Hb5 : Hid (Below w.heap.size w w5) := Hb4.out.trans (hb5.mono (by have := HZ4.out.lt; omega))
  clear k0 k1 z9 HG4 HZ4 Hb4
  have k0 := HG5.out.cellAt 0 _ rfl
  have k1 := HG5.out.cellAt 1 _ rfl
  have z9 := HZ5.out.lt
  clear hb5
  go_wp2_with fail
  refine (C1.out w5 Hb5.out).mono ?_
  rintro e w6 ⟨rfl, hb6⟩
  have HG6 := Lib.hid (HG5.out.below hb6 (by have := HZ5.out.lt; omega))
  have HZ6 := Lib.hid (HZ5.out.below hb6 HZ5.out.lt)
  have Hb6 : Hid (Below w.heap.size w w6) := Hb5.out.trans (hb6.mono (by have := HZ5.out.lt; omega))
  clear k0 k1 z9 HG5 HZ5 Hb5
  have k0 := HG6.out.cellAt 0 _ rfl
  have k1 := HG6.out.cellAt 1 _ rfl
  have z9 := HZ6.out.lt
  clear hb6
  go_wp2
  refine wp_region_noPanic ?_
  refine wp_region_held_drew (S := (fun w' => w'.cell? ⟨w.heap.size, 0, none⟩ = some (.int .i64 n) ∧ w'.cell? ⟨w.heap.size, 1, none⟩ = some (.slice (some ⟨bA, oA, none⟩) L c))) (by kernel_rfl) ?_ (fun hHeld => ?_)
  · (try dsimp only); (first | exact hS3 | exact hS2 | exact ⟨k0, k1⟩ | assumption | (first | go_keep | (obtain ⟨hq, _⟩ := bcell ‹Below _ _ _›; (repeat' apply And.intro) <;> (rw [hq _ _ (by first | assumption | omega | (simp; done) | (simp; omega) | (simp; assumption))] <;> (first | assumption | (simp [*]; done))))))
  refine wpAnyH_take_d (i := 0) (d := some 42) (v := ?v47) rfl rfl (by kernel_rfl) (by kernel_rfl) (by kernel_rfl) (fun _ _ _ h => h) (Or.inl ⟨by kernel_rfl, ?y47⟩) (by assumption) ?_
  case y47 => (intro w' hSw; (try dsimp only at hSw); go_simp; try with_reducible rfl)
  try simp only [Act.put, List.setIfInBounds_toArray, List.set_cons_zero, List.set_cons_succ]
  refine wpAnyH_take_d (i := 1) (d := some 43) (v := ?v48) rfl rfl (by kernel_rfl) (by kernel_rfl) (by kernel_rfl) (fun _ _ _ h => h) (Or.inl ⟨by kernel_rfl, ?y48⟩) (by assumption) ?_
  case y48 => (intro w' hSw; (try dsimp only at hSw); go_simp; try with_reducible rfl)
  try simp only [Act.put, List.setIfInBounds_toArray, List.set_cons_zero, List.set_cons_succ]
  refine wpAnyH_take_d (i := 2) (d := some 44) (v := ?v49) rfl rfl (by kernel_rfl) (by kernel_rfl) (by kernel_rfl) (fun _ _ _ h => h) (Or.inl ⟨by kernel_rfl, ?y49⟩) (by assumption) ?_
  case y49 => (intro w' hSw; (try dsimp only at hSw); go_simp; try with_reducible rfl)
  try simp only [Act.put, List.setIfInBounds_toArray, List.set_cons_zero, List.set_cons_succ]
  refine wpAnyH_take_d (i := 4) (d := some 46) (v := ?v50) rfl rfl (by kernel_rfl) (by kernel_rfl) (by kernel_rfl) (fun _ _ _ h => h) (Or.inl ⟨by kernel_rfl, ?y50⟩) (by assumption) ?_
  case y50 => (intro w' hSw; (try dsimp only at hSw); go_simp; try with_reducible rfl)
  try simp only [Act.put, List.setIfInBounds_toArray, List.set_cons_zero, List.set_cons_succ]
  refine wpAnyH_take_d (i := 5) (d := some 47) (v := ?v51) rfl rfl (by kernel_rfl) (by kernel_rfl) (by kernel_rfl) (fun _ _ _ h => h) (Or.inl ⟨by kernel_rfl, ?y51⟩) (by assumption) ?_
  case y51 => (intro w' hSw; (try dsimp only at hSw); go_simp; try with_reducible rfl)
  try simp only [Act.put, List.setIfInBounds_toArray, List.set_cons_zero, List.set_cons_succ]
  refine wpAnyH_take_d (i := 6) (d := some 48) (v := ?v52) rfl rfl (by kernel_rfl) (by kernel_rfl) (by kernel_rfl) (fun _ _ _ h => h) (Or.inl ⟨by kernel_rfl, ?y52⟩) (by assumption) ?_
  case y52 => (intro w' hSw; (try dsimp only at hSw); go_simp; try with_reducible rfl)
  try simp only [Act.put, List.setIfInBounds_toArray, List.set_cons_zero, List.set_cons_succ]
  refine wpAnyH_ready (rs := [3]) (by kernel_rfl) (by simp) ?_
  refine AllReadyH.cons rfl (fun K hK => ?_) AllReadyH.nil
  go_simp
  refine (C2.out _ (by have := Hb6.out; (repeat' (first | (with_reducible exact Below.refl _ _) | (with_reducible assumption) | (with_reducible refine Below.alloc ?_ ?_ _) | (with_reducible refine Below.drew ?_) | (with_reducible refine below_drewN ?_ _) | (with_reducible refine Below.setCell ?_ ?_ _) | (with_reducible refine Below.trans ?_ (Below.mono (by assumption) ?_)) | (first | omega | (simp only [World.size_alloc, World.size_setCell, World.size_drew]; omega) | (simp; omega) | (simp; done)))))).mono ?_; rintro e w7 ⟨ga, ca, rfl, hown7, hb7⟩; have bb7 : Below w6.heap.size w6 w7 := (Below.drew (Below.refl _ _)).trans hb7; have hS2 : w7.cell? ⟨w.heap.size, 0, none⟩ = some (.int .i64 n) ∧ w7.cell? ⟨w.heap.size, 1, none⟩ = some (.slice (some ⟨bA, oA, none⟩) L c) := ⟨(HG6.out.below bb7 (by omega)).cellAt 0 _ rfl, (HG6.out.below bb7 (by omega)).cellAt 1 _ rfl⟩; have b7 : Below w.heap.size w w7 := Hb6.out.trans (bb7.mono Hb6.out.size)
  refine hK.out _ _ ?s53 (fun hHeld53 => ?_)
  case s53 => ((try dsimp only); (first | exact hS3 | exact hS2 | exact ⟨k0, k1⟩ | assumption | (first | go_keep | (obtain ⟨hq, _⟩ := bcell ‹Below _ _ _›; (repeat' apply And.intro) <;> (rw [hq _ _ (by first | assumption | omega | (simp; done) | (simp; omega) | (simp; assumption))] <;> (first | assumption | (simp [*]; done)))))))
  clear hK K hHeld
  have hHeld := hHeld53; clear hHeld53
  try simp only [Act.put, List.setIfInBounds_toArray, List.set_cons_zero, List.set_cons_succ]
  refine wpAnyH_ready (rs := [7]) (by kernel_rfl) (by simp) ?_
  refine AllReadyH.cons rfl (fun K hK => ?_) AllReadyH.nil
  go_simp
  refine (C3.out _ b7).mono ?_; rintro e w8 ⟨gb, cb, rfl, hown8, hb8⟩; have bb8 : Below w6.heap.size w6 w8 := bb7.trans (hb8.mono bb7.size); have hS3 : w8.cell? ⟨w.heap.size, 0, none⟩ = some (.int .i64 n) ∧ w8.cell? ⟨w.heap.size, 1, none⟩ = some (.slice (some ⟨bA, oA, none⟩) L c) := ⟨(HG6.out.below bb8 (by omega)).cellAt 0 _ rfl, (HG6.out.below bb8 (by omega)).cellAt 1 _ rfl⟩
  refine hK.out _ _ ?s54 (fun hHeld54 => ?_)
  case s54 => ((try dsimp only); (first | exact hS3 | exact hS2 | exact ⟨k0, k1⟩ | assumption | (first | go_keep | (obtain ⟨hq, _⟩ := bcell ‹Below _ _ _›; (repeat' apply And.intro) <;> (rw [hq _ _ (by first | assumption | omega | (simp; done) | (simp; omega) | (simp; assumption))] <;> (first | assumption | (simp [*]; done)))))))
  clear hK K hHeld
  have hHeld := hHeld54; clear hHeld54
  try simp only [Act.put, List.setIfInBounds_toArray, List.set_cons_zero, List.set_cons_succ]
  refine wpAnyH_take_d (i := 8) (d := some 9) (v := ?v55) rfl rfl (by kernel_rfl) (by kernel_rfl) (by kernel_rfl) (fun _ _ _ h => h) (Or.inl ⟨by kernel_rfl, ?y55⟩) (by assumption) ?_
  case y55 => (intro w' hSw; (try dsimp only at hSw); go_simp; try with_reducible rfl)
  try simp only [Act.put, List.setIfInBounds_toArray, List.set_cons_zero, List.set_cons_succ]
  refine wpAnyH_take_d (i := 9) (d := some 10) (v := ?v56) rfl rfl (by kernel_rfl) (by kernel_rfl) (by kernel_rfl) (fun _ _ _ h => h) (Or.inl ⟨by kernel_rfl, ?y56⟩) (by assumption) ?_
  case y56 => (intro w' hSw; (try dsimp only at hSw); go_simp; try with_reducible rfl)
  try simp only [Act.put, List.setIfInBounds_toArray, List.set_cons_zero, List.set_cons_succ]
  refine wpAnyH_done (by kernel_rfl) ?_ _
  refine NoPanic.normal ?_
  have HA8 := Lib.hid (own_mono (own_below hown7 hb8) Hb6.out.size)
  have HB8 := Lib.hid (own_mono hown8 b7.size)
  clear hHeld hS2 hS3 hb7 b7 hown7 hown8 bb7 hb8
  have HG8 := Lib.hid (HG6.out.below bb8 (by have := HZ6.out.lt; omega))
  have HZ8 := Lib.hid (HZ6.out.below bb8 HZ6.out.lt)
  have Hb8 : Hid (Below w.heap.size w w8) := Hb6.out.trans (bb8.mono (by have := HZ6.out.lt; omega))
  clear k0 k1 z9 HG6 HZ6 Hb6
  have k0 := HG8.out.cellAt 0 _ rfl
  have k1 := HG8.out.cellAt 1 _ rfl
  have z9 := HZ8.out.lt
  clear bb8

  rcases h with h1 | ⟨h1, h2⟩
  · have g3 : ((x0 : Int) == (x1 : Int)) = true := by simp; omega
    clear h1
    have a0 : w8.cell? ⟨ga, 0, none⟩ = some (.int .i64 (x0 : Int)) := own_cellI HA8.out rfl (by decide)
    have a1 : w8.cell? ⟨ga, 1, none⟩ = some (.int .i64 (x1 : Int)) := own_cellI HA8.out rfl (by decide)
    have b0 : w8.cell? ⟨gb, 0, none⟩ = some (.int .i64 (y0 : Int)) := own_cellI HB8.out rfl (by decide)
    have b1 : w8.cell? ⟨gb, 1, none⟩ = some (.int .i64 (y1 : Int)) := own_cellI HB8.out rfl (by decide)
    go_wp2
    refine wp_region_noPanic ?_
    refine wp_region_held_drew (S := (fun w' => w'.cell? ⟨ga, 0, none⟩ = some (.int .i64 (x0 : Int)) ∧ w'.cell? ⟨ga, 1, none⟩ = some (.int .i64 (x1 : Int)) ∧ w'.cell? ⟨gb, 0, none⟩ = some (.int .i64 (y0 : Int)) ∧ w'.cell? ⟨gb, 1, none⟩ = some (.int .i64 (y1 : Int)))) (by kernel_rfl) ?_ (fun hHeld => ?_)
    · (try dsimp only); (first | exact ⟨a0, a1, b0, b1⟩ | assumption | (first | go_keep | (obtain ⟨hq, _⟩ := bcell ‹Below _ _ _›; (repeat' apply And.intro) <;> (rw [hq _ _ (by first | assumption | omega | (simp; done) | (simp; omega) | (simp; assumption))] <;> (first | assumption | (simp [*]; done))))))
    refine wpAnyH_take_d (i := 0) (d := some 50) (v := ?v57) rfl rfl (by kernel_rfl) (by kernel_rfl) (by kernel_rfl) (fun _ _ _ h => h) (Or.inl ⟨by kernel_rfl, ?y57⟩) (by assumption) ?_
    case y57 => (intro w' hSw; (try dsimp only at hSw); go_simp; try with_reducible rfl)
    try simp only [Act.put, List.setIfInBounds_toArray, List.set_cons_zero, List.set_cons_succ]
    refine wpAnyH_take_d (i := 1) (d := some 51) (v := ?v58) rfl rfl (by kernel_rfl) (by kernel_rfl) (by kernel_rfl) (fun _ _ _ h => h) (Or.inl ⟨by kernel_rfl, ?y58⟩) (by assumption) ?_
    case y58 => (intro w' hSw; (try dsimp only at hSw); go_simp; try with_reducible rfl)
    try simp only [Act.put, List.setIfInBounds_toArray, List.set_cons_zero, List.set_cons_succ]
    refine wpAnyH_take_d (i := 2) (d := some 52) (v := ?v59) rfl rfl (by kernel_rfl) (by kernel_rfl) (by kernel_rfl) (fun _ _ _ h => h) (Or.inl ⟨by kernel_rfl, ?y59⟩) (by assumption) ?_
    case y59 => (intro w' hSw; (try dsimp only at hSw); go_simp; try with_reducible rfl)
    try simp only [Act.put, List.setIfInBounds_toArray, List.set_cons_zero, List.set_cons_succ]
    refine wpAnyH_take_d (i := 3) (d := some 53) (v := ?v60) rfl rfl (by kernel_rfl) (by kernel_rfl) (by kernel_rfl) (fun _ _ _ h => h) (Or.inl ⟨by kernel_rfl, ?y60⟩) (by assumption) ?_
    case y60 => (intro w' hSw; (try dsimp only at hSw); go_simp; try with_reducible rfl)
    try simp only [Act.put, List.setIfInBounds_toArray, List.set_cons_zero, List.set_cons_succ]
    refine wpAnyH_take_d (i := 4) (d := some 54) (v := ?v61) rfl rfl (by kernel_rfl) (by kernel_rfl) (by kernel_rfl) (fun _ _ _ h => h) (Or.inl ⟨by kernel_rfl, ?y61⟩) (by assumption) ?_
    case y61 => (intro w' hSw; (try dsimp only at hSw); go_simp; try with_reducible rfl)
    try simp only [Act.put, List.setIfInBounds_toArray, List.set_cons_zero, List.set_cons_succ]
    refine wpAnyH_take_d (i := 5) (d := some 55) (v := ?v62) rfl rfl (by kernel_rfl) (by kernel_rfl) (by kernel_rfl) (fun _ _ _ h => h) (Or.inl ⟨by kernel_rfl, ?y62⟩) (by assumption) ?_
    case y62 => (intro w' hSw; (try dsimp only at hSw); go_simp; try with_reducible rfl)
    try simp only [Act.put, List.setIfInBounds_toArray, List.set_cons_zero, List.set_cons_succ]
    refine wpAnyH_take_d (i := 6) (d := some 56) (v := ?v63) rfl rfl (by kernel_rfl) (by kernel_rfl) (by kernel_rfl) (fun _ _ _ h => h) (Or.inl ⟨by kernel_rfl, ?y63⟩) (by assumption) ?_
    case y63 => (intro w' hSw; (try dsimp only at hSw); go_simp; try with_reducible rfl)
    try simp only [Act.put, List.setIfInBounds_toArray, List.set_cons_zero, List.set_cons_succ]
    refine wpAnyH_take_d (i := 7) (d := some 57) (v := ?v64) rfl rfl (by kernel_rfl) (by kernel_rfl) (by kernel_rfl) (fun _ _ _ h => h) (Or.inl ⟨by kernel_rfl, ?y64⟩) (by assumption) ?_
    case y64 => (intro w' hSw; (try dsimp only at hSw); go_simp; try with_reducible rfl)
    try simp only [Act.put, List.setIfInBounds_toArray, List.set_cons_zero, List.set_cons_succ]
    refine wpAnyH_take_d (i := 8) (d := some 58) (v := undef) rfl rfl (by kernel_rfl) (by kernel_rfl) (by kernel_rfl) (fun _ _ _ h => h) (Or.inr ⟨by kernel_rfl, rfl⟩) (by assumption) ?_
    try simp only [Act.put, List.setIfInBounds_toArray, List.set_cons_zero, List.set_cons_succ]
    refine wpAnyH_take_d (i := 9) (d := some 59) (v := undef) rfl rfl (by kernel_rfl) (by kernel_rfl) (by kernel_rfl) (fun _ _ _ h => h) (Or.inr ⟨by kernel_rfl, rfl⟩) (by assumption) ?_
    try simp only [Act.put, List.setIfInBounds_toArray, List.set_cons_zero, List.set_cons_succ]
    refine wpAnyH_take_d (i := 10) (d := some 60) (v := undef) rfl rfl (by kernel_rfl) (by kernel_rfl) (by kernel_rfl) (fun _ _ _ h => h) (Or.inr ⟨by kernel_rfl, rfl⟩) (by assumption) ?_
    try simp only [Act.put, List.setIfInBounds_toArray, List.set_cons_zero, List.set_cons_succ]
    refine wpAnyH_take_d (i := 11) (d := some 61) (v := undef) rfl rfl (by kernel_rfl) (by kernel_rfl) (by kernel_rfl) (fun _ _ _ h => h) (Or.inr ⟨by kernel_rfl, rfl⟩) (by assumption) ?_
    try simp only [Act.put, List.setIfInBounds_toArray, List.set_cons_zero, List.set_cons_succ]
    refine wpAnyH_take_d (i := 12) (d := some 62) (v := undef) rfl rfl (by kernel_rfl) (by kernel_rfl) (by kernel_rfl) (fun _ _ _ h => h) (Or.inr ⟨by kernel_rfl, rfl⟩) (by assumption) ?_
    try simp only [Act.put, List.setIfInBounds_toArray, List.set_cons_zero, List.set_cons_succ]
    refine wpAnyH_take_d (i := 13) (d := some 63) (v := undef) rfl rfl (by kernel_rfl) (by kernel_rfl) (by kernel_rfl) (fun _ _ _ h => h) (Or.inr ⟨by kernel_rfl, rfl⟩) (by assumption) ?_
    try simp only [Act.put, List.setIfInBounds_toArray, List.set_cons_zero, List.set_cons_succ]
    refine wpAnyH_take_d (i := 14) (d := some 64) (v := undef) rfl rfl (by kernel_rfl) (by kernel_rfl) (by kernel_rfl) (fun _ _ _ h => h) (Or.inr ⟨by kernel_rfl, rfl⟩) (by assumption) ?_
    try simp only [Act.put, List.setIfInBounds_toArray, List.set_cons_zero, List.set_cons_succ]
    refine wpAnyH_take_d (i := 15) (d := some 65) (v := ?v72) rfl rfl (by kernel_rfl) (by kernel_rfl) (by kernel_rfl) (fun _ _ _ h => h) (Or.inl ⟨by kernel_rfl, ?y72⟩) (by assumption) ?_
    case y72 => (intro w' hSw; (try dsimp only at hSw); go_simp; try with_reducible rfl)
    try simp only [Act.put, List.setIfInBounds_toArray, List.set_cons_zero, List.set_cons_succ]
    refine wpAnyH_done (by kernel_rfl) ?_ _
    refine NoPanic.normal ?_
    clear hHeld a0 a1 b0 b1
    obtain ⟨w9, hw9⟩ : ∃ x, x = w8.drew := ⟨_, rfl⟩
    have hb9 : Below w8.heap.size w8 w9 := by rw [hw9]; exact Below.drew (Below.refl _ _)
    rw [← hw9]
    clear hw9
    have HA9 := Lib.hid (own_below HA8.out hb9)
    have HB9 := Lib.hid (own_below HB8.out hb9)
    clear HA8 HB8
    have HG9 := Lib.hid (HG8.out.below hb9 (by have := HZ8.out.lt; omega))
    have HZ9 := Lib.hid (HZ8.out.below hb9 HZ8.out.lt)
    have Hb9 : Hid (Below w.heap.size w w9) := Hb8.out.trans (hb9.mono (by have := HZ8.out.lt; omega))
    clear k0 k1 z9 HG8 HZ8 Hb8
    have k0 := HG9.out.cellAt 0 _ rfl
    have k1 := HG9.out.cellAt 1 _ rfl
    have z9 := HZ9.out.lt
    clear hb9
    have x0 := HZ9.out.cellAt 0 _ rfl
    have x1 : (w9.setCell ⟨w.heap.size + 1, 0, none⟩ (.int .i64 0)).cell? ⟨w.heap.size + 1, 1, none⟩ = some (.slice none 0 0) := (sc_other (by simp)).trans (HZ9.out.cellAt 1 _ rfl)
    have f0 := HZ9.out.frozen 0
    have f1 := HZ9.out.frozen 1
    go_wp2
    refine ret_cell_tmp Tryz.results8 Tryz.underlying28 rfl (by kernel_rfl) rfl ((HZ9.out.set_ 0 (.int .i64 0)).set_ 1 (.slice none 0 0)) rfl rfl ⟨⟨none, 0, rfl, FrE.nil⟩, (Hb9.out.setCell (by show w.heap.size ≤ w.heap.size + 1; omega) _).setCell (by show w.heap.size ≤ w.heap.size + 1; omega) _⟩
  · have g3 : ((x0 : Int) == (x1 : Int)) = false := by simp; omega
    have g4 : ((y0 : Int) == (y1 : Int)) = true := by simp; omega
    clear h1 h2
    have a0 : w8.cell? ⟨ga, 0, none⟩ = some (.int .i64 (x0 : Int)) := own_cellI HA8.out rfl (by decide)
    have a1 : w8.cell? ⟨ga, 1, none⟩ = some (.int .i64 (x1 : Int)) := own_cellI HA8.out rfl (by decide)
    have b0 : w8.cell? ⟨gb, 0, none⟩ = some (.int .i64 (y0 : Int)) := own_cellI HB8.out rfl (by decide)
    have b1 : w8.cell? ⟨gb, 1, none⟩ = some (.int .i64 (y1 : Int)) := own_cellI HB8.out rfl (by decide)
    go_wp2
    refine wp_region_noPanic ?_
    refine wp_region_held_drew (S := (fun w' => w'.cell? ⟨ga, 0, none⟩ = some (.int .i64 (x0 : Int)) ∧ w'.cell? ⟨ga, 1, none⟩ = some (.int .i64 (x1 : Int)) ∧ w'.cell? ⟨gb, 0, none⟩ = some (.int .i64 (y0 : Int)) ∧ w'.cell? ⟨gb, 1, none⟩ = some (.int .i64 (y1 : Int)))) (by kernel_rfl) ?_ (fun hHeld => ?_)
    · (try dsimp only); (first | exact ⟨a0, a1, b0, b1⟩ | assumption | (first | go_keep | (obtain ⟨hq, _⟩ := bcell ‹Below _ _ _›; (repeat' apply And.intro) <;> (rw [hq _ _ (by first | assumption | omega | (simp; done) | (simp; omega) | (simp; assumption))] <;> (first | assumption | (simp [*]; done))))))
    refine wpAnyH_take_d (i := 0) (d := some 50) (v := ?v73) rfl rfl (by kernel_rfl) (by kernel_rfl) (by kernel_rfl) (fun _ _ _ h => h) (Or.inl ⟨by kernel_rfl, ?y73⟩) (by assumption) ?_
    case y73 => (intro w' hSw; (try dsimp only at hSw); go_simp; try with_reducible rfl)
    try simp only [Act.put, List.setIfInBounds_toArray, List.set_cons_zero, List.set_cons_succ]
    refine wpAnyH_take_d (i := 1) (d := some 51) (v := ?v74) rfl rfl (by kernel_rfl) (by kernel_rfl) (by kernel_rfl) (fun _ _ _ h => h) (Or.inl ⟨by kernel_rfl, ?y74⟩) (by assumption) ?_
    case y74 => (intro w' hSw; (try dsimp only at hSw); go_simp; try with_reducible rfl)
    try simp only [Act.put, List.setIfInBounds_toArray, List.set_cons_zero, List.set_cons_succ]
    refine wpAnyH_take_d (i := 2) (d := some 52) (v := ?v75) rfl rfl (by kernel_rfl) (by kernel_rfl) (by kernel_rfl) (fun _ _ _ h => h) (Or.inl ⟨by kernel_rfl, ?y75⟩) (by assumption) ?_
    case y75 => (intro w' hSw; (try dsimp only at hSw); go_simp; try with_reducible rfl)
    try simp only [Act.put, List.setIfInBounds_toArray, List.set_cons_zero, List.set_cons_succ]
    refine wpAnyH_take_d (i := 3) (d := some 53) (v := ?v76) rfl rfl (by kernel_rfl) (by kernel_rfl) (by kernel_rfl) (fun _ _ _ h => h) (Or.inl ⟨by kernel_rfl, ?y76⟩) (by assumption) ?_
    case y76 => (intro w' hSw; (try dsimp only at hSw); go_simp; try with_reducible rfl)
    try simp only [Act.put, List.setIfInBounds_toArray, List.set_cons_zero, List.set_cons_succ]
    refine wpAnyH_take_d (i := 4) (d := some 54) (v := ?v77) rfl rfl (by kernel_rfl) (by kernel_rfl) (by kernel_rfl) (fun _ _ _ h => h) (Or.inl ⟨by kernel_rfl, ?y77⟩) (by assumption) ?_
    case y77 => (intro w' hSw; (try dsimp only at hSw); go_simp; try with_reducible rfl)
    try simp only [Act.put, List.setIfInBounds_toArray, List.set_cons_zero, List.set_cons_succ]
    refine wpAnyH_take_d (i := 5) (d := some 55) (v := ?v78) rfl rfl (by kernel_rfl) (by kernel_rfl) (by kernel_rfl) (fun _ _ _ h => h) (Or.inl ⟨by kernel_rfl, ?y78⟩) (by assumption) ?_
    case y78 => (intro w' hSw; (try dsimp only at hSw); go_simp; try with_reducible rfl)
    try simp only [Act.put, List.setIfInBounds_toArray, List.set_cons_zero, List.set_cons_succ]
    refine wpAnyH_take_d (i := 6) (d := some 56) (v := ?v79) rfl rfl (by kernel_rfl) (by kernel_rfl) (by kernel_rfl) (fun _ _ _ h => h) (Or.inl ⟨by kernel_rfl, ?y79⟩) (by assumption) ?_
    case y79 => (intro w' hSw; (try dsimp only at hSw); go_simp; try with_reducible rfl)
    try simp only [Act.put, List.setIfInBounds_toArray, List.set_cons_zero, List.set_cons_succ]
    refine wpAnyH_take_d (i := 7) (d := some 57) (v := ?v80) rfl rfl (by kernel_rfl) (by kernel_rfl) (by kernel_rfl) (fun _ _ _ h => h) (Or.inl ⟨by kernel_rfl, ?y80⟩) (by assumption) ?_
    case y80 => (intro w' hSw; (try dsimp only at hSw); go_simp; try with_reducible rfl)
    try simp only [Act.put, List.setIfInBounds_toArray, List.set_cons_zero, List.set_cons_succ]
    refine wpAnyH_take_d (i := 8) (d := some 58) (v := ?v81) rfl rfl (by kernel_rfl) (by kernel_rfl) (by kernel_rfl) (fun _ _ _ h => h) (Or.inl ⟨by kernel_rfl, ?y81⟩) (by assumption) ?_
    case y81 => (intro w' hSw; (try dsimp only at hSw); go_simp; try with_reducible rfl)
    try simp only [Act.put, List.setIfInBounds_toArray, List.set_cons_zero, List.set_cons_succ]
    refine wpAnyH_take_d (i := 9) (d := some 59) (v := ?v82) rfl rfl (by kernel_rfl) (by kernel_rfl) (by kernel_rfl) (fun _ _ _ h => h) (Or.inl ⟨by kernel_rfl, ?y82⟩) (by assumption) ?_
    case y82 => (intro w' hSw; (try dsimp only at hSw); go_simp; try with_reducible rfl)
    try simp only [Act.put, List.setIfInBounds_toArray, List.set_cons_zero, List.set_cons_succ]
    refine wpAnyH_take_d (i := 10) (d := some 60) (v := ?v83) rfl rfl (by kernel_rfl) (by kernel_rfl) (by kernel_rfl) (fun _ _ _ h => h) (Or.inl ⟨by kernel_rfl, ?y83⟩) (by assumption) ?_
    case y83 => (intro w' hSw; (try dsimp only at hSw); go_simp; try with_reducible rfl)
    try simp only [Act.put, List.setIfInBounds_toArray, List.set_cons_zero, List.set_cons_succ]
    refine wpAnyH_take_d (i := 11) (d := some 61) (v := ?v84) rfl rfl (by kernel_rfl) (by kernel_rfl) (by kernel_rfl) (fun _ _ _ h => h) (Or.inl ⟨by kernel_rfl, ?y84⟩) (by assumption) ?_
    case y84 => (intro w' hSw; (try dsimp only at hSw); go_simp; try with_reducible rfl)
    try simp only [Act.put, List.setIfInBounds_toArray, List.set_cons_zero, List.set_cons_succ]
    refine wpAnyH_take_d (i := 12) (d := some 62) (v := ?v85) rfl rfl (by kernel_rfl) (by kernel_rfl) (by kernel_rfl) (fun _ _ _ h => h) (Or.inl ⟨by kernel_rfl, ?y85⟩) (by assumption) ?_
    case y85 => (intro w' hSw; (try dsimp only at hSw); go_simp; try with_reducible rfl)
    try simp only [Act.put, List.setIfInBounds_toArray, List.set_cons_zero, List.set_cons_succ]
    refine wpAnyH_take_d (i := 13) (d := some 63) (v := ?v86) rfl rfl (by kernel_rfl) (by kernel_rfl) (by kernel_rfl) (fun _ _ _ h => h) (Or.inl ⟨by kernel_rfl, ?y86⟩) (by assumption) ?_
    case y86 => (intro w' hSw; (try dsimp only at hSw); go_simp; try with_reducible rfl)
    try simp only [Act.put, List.setIfInBounds_toArray, List.set_cons_zero, List.set_cons_succ]
    refine wpAnyH_take_d (i := 14) (d := some 64) (v := ?v87) rfl rfl (by kernel_rfl) (by kernel_rfl) (by kernel_rfl) (fun _ _ _ h => h) (Or.inl ⟨by kernel_rfl, ?y87⟩) (by assumption) ?_
    case y87 => (intro w' hSw; (try dsimp only at hSw); go_simp; try with_reducible rfl)
    try simp only [Act.put, List.setIfInBounds_toArray, List.set_cons_zero, List.set_cons_succ]
    refine wpAnyH_take_d (i := 15) (d := some 65) (v := ?v88) rfl rfl (by kernel_rfl) (by kernel_rfl) (by kernel_rfl) (fun _ _ _ h => h) (Or.inl ⟨by kernel_rfl, ?y88⟩) (by assumption) ?_
    case y88 => (intro w' hSw; (try dsimp only at hSw); go_simp; try with_reducible rfl)
    try simp only [Act.put, List.setIfInBounds_toArray, List.set_cons_zero, List.set_cons_succ]
    refine wpAnyH_done (by kernel_rfl) ?_ _
    refine NoPanic.normal ?_
    clear hHeld a0 a1 b0 b1
    obtain ⟨w9, hw9⟩ : ∃ x, x = w8.drew := ⟨_, rfl⟩
    have hb9 : Below w8.heap.size w8 w9 := by rw [hw9]; exact Below.drew (Below.refl _ _)
    rw [← hw9]
    clear hw9
    have HA9 := Lib.hid (own_below HA8.out hb9)
    have HB9 := Lib.hid (own_below HB8.out hb9)
    clear HA8 HB8
    have HG9 := Lib.hid (HG8.out.below hb9 (by have := HZ8.out.lt; omega))
    have HZ9 := Lib.hid (HZ8.out.below hb9 HZ8.out.lt)
    have Hb9 : Hid (Below w.heap.size w w9) := Hb8.out.trans (hb9.mono (by have := HZ8.out.lt; omega))
    clear k0 k1 z9 HG8 HZ8 Hb8
    have k0 := HG9.out.cellAt 0 _ rfl
    have k1 := HG9.out.cellAt 1 _ rfl
    have z9 := HZ9.out.lt
    clear hb9
    have x0 := HZ9.out.cellAt 0 _ rfl
    have x1 : (w9.setCell ⟨w.heap.size + 1, 0, none⟩ (.int .i64 0)).cell? ⟨w.heap.size + 1, 1, none⟩ = some (.slice none 0 0) := (sc_other (by simp)).trans (HZ9.out.cellAt 1 _ rfl)
    have f0 := HZ9.out.frozen 0
    have f1 := HZ9.out.frozen 1
    go_wp2
    refine ret_cell_tmp Tryz.results8 Tryz.underlying28 rfl (by kernel_rfl) rfl ((HZ9.out.set_ 0 (.int .i64 0)).set_ 1 (.slice none 0 0)) rfl rfl ⟨⟨none, 0, rfl, FrE.nil⟩, (Hb9.out.setCell (by show w.heap.size ≤ w.heap.size + 1; omega) _).setCell (by show w.heap.size ≤ w.heap.size + 1; omega) _⟩
end Go.Proofs.YtjgmoffkecnmcaaGreat
