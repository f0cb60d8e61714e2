/- The walk of the law FnExactLeastGenus. -/
import Derived.Test.YtigdfcigoejjjaaLg2
import Derived.Test.YtigdfcigoejjjaaGlue
import Derived.Test.YtigdfcigoejjjaaCi1
namespace Go.Proofs.Ytigdfcigoejjjaa
open Go.RowKit
set_option linter.unusedSimpArgs false
set_option linter.unusedVariables false
set_option maxRecDepth 20000

set_option maxHeartbeats 2000000 in
theorem lawLg_any (n : Int) (A : Option Addr) (c : Nat) (es : List (Int × Int)) (w : World) (hl : es.length ≤ 9223372036854775807) (hr : RdE w A es) :
    Calls Try.prog 5 #[.agg #[.int .i64 n, .slice A es.length c]] w fun e w' => e = .returned (.bool true) ∧ Below w.heap.size w w' := by
  have cs := fun W => szGraph_any n A es.length c W hl
  by_cases h : es.length ≤ 1048576
  · rw [if_pos h] at cs
    obtain ⟨r1, R1⟩ : ∃ r, Hid ((lgOf n es).1 = r) := ⟨_, rfl⟩
    obtain ⟨r2, R2⟩ : ∃ r, Hid ((lgOf n es).2 = r) := ⟨_, rfl⟩
    have ct := fun W hW => toGraph_any n A c es W h (RdE.below (w' := W) hr hW)
    have cp := fun W g (hB : Blk W g 83 (cE es).toArray) => specLg_b n (some ⟨g, 0, none⟩) es.length es W h (blkE_rd hB) r1 r2 R1 R2
    have ci := fun W g (hB : Blk W g 83 (cE es).toArray) => implLg_b n (some ⟨g, 0, none⟩) es.length es W h (blkE_rd hB) r1 r2 R1 R2
    have ce := fun W g g' (hB : Blk W g 83 (cE es).toArray) (hB' : Blk W g' 83 (cE es).toArray) => eqGraph_any n n (some ⟨g, 0, none⟩) (some ⟨g', 0, none⟩) es.length es.length es es W h h (blkE_rd hB) (blkE_rd hB')
    simp only [decide_true, Bool.and_self] at ce
    have h2 : ¬ ((1048576 : Int) - (es.length : Int) < 0) := by omega
    clear hr R1 R2
    generalize es.length = L at *
    go_enter Try.func5, Try.ntmps5
    go_wp2_with fail
    refine (cs _).mono ?_
    rintro e w1 ⟨rfl, hb1⟩
    simp only [World.size_alloc, World.size_setCell, World.size_drew] at hb1; have B1 : Below w.heap.size w w1 := by (repeat' (first | (with_reducible exact Below.refl _ _) | (with_reducible assumption) | (with_reducible refine Below.alloc ?_ ?_ _) | (with_reducible refine Below.drew ?_) | (with_reducible refine below_drewN ?_ _) | (with_reducible refine Below.setCell ?_ ?_ _) | (with_reducible refine Below.trans ?_ (Below.mono (by assumption) ?_)) | (first | omega | (simp only [World.size_alloc, World.size_setCell, World.size_drew]; omega) | (simp; omega) | (simp; done))))
    have K1 : Blk w1 w.heap.size 24 #[.int .i64 n, .slice A L c] := (Blk.new' _ rfl).below hb1 (by omega)
    have d10 := K1.cellAt 0 _ rfl; have d11 := K1.cellAt 1 _ rfl; have z1 := hb1.size; simp only [World.size_alloc, World.size_setCell, World.size_drew] at z1
    go_wp2_with fail
    refine (ct _ B1).mono ?_
    rintro e w2 ⟨g1, rfl, hg1, hE1, hb2⟩
    have B2 := B1.trans (hb2.mono B1.size); have K2 := K1.below hb2 K1.lt; have d20 := K2.cellAt 0 _ rfl; have d21 := K2.cellAt 1 _ rfl; have z2 := B2.size
    go_wp2_with fail
    refine (cp _ _ hE1).mono ?_
    rintro e w3 ⟨rfl, hb3⟩
    have B3 := B2.trans (hb3.mono B2.size); have K3 := K2.below hb3 K2.lt; have d30 := K3.cellAt 0 _ rfl; have d31 := K3.cellAt 1 _ rfl; have z3 := B3.size
    go_wp2_with fail
    refine (ct _ B3).mono ?_
    rintro e w4 ⟨g2, rfl, hg2, hE2, hb4⟩
    have B4 := B3.trans (hb4.mono B3.size); have K4 := K3.below hb4 K3.lt; have d40 := K4.cellAt 0 _ rfl; have d41 := K4.cellAt 1 _ rfl; have z4 := B4.size
    have X := (Blk.new w4 32 #[.int .i64 n, .slice (some ⟨g2, 0, none⟩) L L])
    go_wp2_with fail
    refine (ci _ _ (hE2.alloc _)).mono ?_
    rintro e w5 ⟨rfl, hb5⟩
    simp only [World.size_alloc, World.size_setCell, World.size_drew] at hb5
    have X5 := X.below hb5 (by omega)
    have E5 := (hE2.alloc _).below hb5 (by have := hE2.lt; omega)
    have K5 := (K4.alloc _).below hb5 (by have := K4.lt; omega)
    have B5 : Below w.heap.size w w5 := by (repeat' (first | (with_reducible exact Below.refl _ _) | (with_reducible assumption) | (with_reducible refine Below.alloc ?_ ?_ _) | (with_reducible refine Below.drew ?_) | (with_reducible refine below_drewN ?_ _) | (with_reducible refine Below.setCell ?_ ?_ _) | (with_reducible refine Below.trans ?_ (Below.mono (by assumption) ?_)) | (first | omega | (simp only [World.size_alloc, World.size_setCell, World.size_drew]; omega) | (simp; omega) | (simp; done))))
    have x0 := X5.cellAt 0 _ rfl
    have x1 := X5.cellAt 1 _ rfl
    have d50 := K5.cellAt 0 _ rfl
    have d51 := K5.cellAt 1 _ rfl
    have z5 := X5.lt
    have z5' := K5.lt
    clear d10 d11 d20 d21 d30 d31 d40 d41 hb1 hb2 hb3 hb4 hb5 K1 K2 K3 K4 B1 B2 B3 B4 X hE1 hE2
    go_wp2_with fail
    refine wp_region_noPanic ?_
    refine wp_region_held_drew (S := (fun w' => w'.cell? ⟨w.heap.size, 0, none⟩ = some (.int .i64 n) ∧ w'.cell? ⟨w.heap.size, 1, none⟩ = some (.slice A L c) ∧ w'.cell? ⟨w4.heap.size, 0, none⟩ = some (.int .i64 n) ∧ w'.cell? ⟨w4.heap.size, 1, none⟩ = some (.slice (some ⟨g2, 0, none⟩) L L))) (by kernel_rfl) ?_ (fun hHeld => ?_)
    · (try dsimp only); (first | go_keep | (obtain ⟨hq, _⟩ := bcell ‹Below _ _ _›; (repeat' apply And.intro) <;> (rw [hq _ _ (by first | assumption | omega | (simp; done) | (simp; omega) | (simp; assumption))] <;> (first | assumption | (simp [*]; done)))))
    refine wpAnyH_take_d (i := 0) (d := some 35) (v := ?v1) rfl rfl (by kernel_rfl) (by kernel_rfl) (by kernel_rfl) (fun _ _ _ h => h) (Or.inl ⟨by kernel_rfl, ?y1⟩) (by assumption) ?_
    case y1 => (intro w' hSw; (try dsimp only at hSw); go_simp; try with_reducible rfl)
    try simp only [Act.put, List.setIfInBounds_toArray, List.set_cons_zero, List.set_cons_succ]
    refine wpAnyH_take_d (i := 1) (d := some 36) (v := ?v2) rfl rfl (by kernel_rfl) (by kernel_rfl) (by kernel_rfl) (fun _ _ _ h => h) (Or.inl ⟨by kernel_rfl, ?y2⟩) (by assumption) ?_
    case y2 => (intro w' hSw; (try dsimp only at hSw); go_simp; try with_reducible rfl)
    try simp only [Act.put, List.setIfInBounds_toArray, List.set_cons_zero, List.set_cons_succ]
    refine wpAnyH_ready (rs := [2]) (by kernel_rfl) (by simp) ?_
    refine AllReadyH.cons rfl (fun K hK => ?_) AllReadyH.nil
    go_simp
    refine (ct _ B5.drew).mono ?_; rintro e w6 ⟨g3, rfl, hg3, hE3, hb6⟩; have z6 := hb6.size; (try simp only [World.size_alloc, World.size_setCell, World.size_drew] at z6)
    refine hK.out _ _ ?s3 (fun hHeld3 => ?_)
    case s3 => ((try dsimp only); (first | go_keep | (obtain ⟨hq, _⟩ := bcell ‹Below _ _ _›; (repeat' apply And.intro) <;> (rw [hq _ _ (by first | assumption | omega | (simp; done) | (simp; omega) | (simp; assumption))] <;> (first | assumption | (simp [*]; done))))))
    clear hK K hHeld
    have hHeld := hHeld3; clear hHeld3
    try simp only [Act.put, List.setIfInBounds_toArray, List.set_cons_zero, List.set_cons_succ]
    refine wpAnyH_ready (rs := [3]) (by kernel_rfl) (by simp) ?_
    refine AllReadyH.cons rfl (fun K hK => ?_) AllReadyH.nil
    go_simp
    refine (ce _ _ _ (E5.drew.below hb6 E5.lt) hE3).mono ?_; rintro e w7 ⟨rfl, hb7⟩
    refine hK.out _ _ ?s4 (fun hHeld4 => ?_)
    case s4 => ((try dsimp only); (first | go_keep | (obtain ⟨hq, _⟩ := bcell ‹Below _ _ _›; (repeat' apply And.intro) <;> (rw [hq _ _ (by first | assumption | omega | (simp; done) | (simp; omega) | (simp; assumption))] <;> (first | assumption | (simp [*]; done))))))
    clear hK K hHeld
    have hHeld := hHeld4; clear hHeld4
    try simp only [Act.put, List.setIfInBounds_toArray, List.set_cons_zero, List.set_cons_succ]
    refine wpAnyH_take_d (i := 4) (d := some 39) (v := ?v5) rfl rfl (by kernel_rfl) (by kernel_rfl) (by kernel_rfl) (fun _ _ _ h => h) (Or.inl ⟨by kernel_rfl, ?y5⟩) (by assumption) ?_
    case y5 => (intro w' hSw; (try dsimp only at hSw); go_simp; try with_reducible rfl)
    try simp only [Act.put, List.setIfInBounds_toArray, List.set_cons_zero, List.set_cons_succ]
    refine wpAnyH_done (by kernel_rfl) ?_ _
    refine NoPanic.normal ?_
    go_wp2
    go_ret
    exact ⟨rfl, by (repeat' (first | (with_reducible exact Below.refl _ _) | (with_reducible assumption) | (with_reducible refine Below.alloc ?_ ?_ _) | (with_reducible refine Below.drew ?_) | (with_reducible refine below_drewN ?_ _) | (with_reducible refine Below.setCell ?_ ?_ _) | (with_reducible refine Below.trans ?_ (Below.mono (by assumption) ?_)) | (first | omega | (simp only [World.size_alloc, World.size_setCell, World.size_drew]; omega) | (simp; omega) | (simp; done))))⟩
  · rw [if_neg h] at cs
    clear hr
    generalize es.length = L at *
    go_enter Try.func5, Try.ntmps5
    go_wp2_with fail
    refine (cs _).mono ?_
    rintro e w1 ⟨rfl, hb1⟩
    go_wp2
    go_ret
    exact ⟨rfl, by (repeat' (first | (with_reducible exact Below.refl _ _) | (with_reducible assumption) | (with_reducible refine Below.alloc ?_ ?_ _) | (with_reducible refine Below.drew ?_) | (with_reducible refine below_drewN ?_ _) | (with_reducible refine Below.setCell ?_ ?_ _) | (with_reducible refine Below.trans ?_ (Below.mono (by assumption) ?_)) | (first | omega | (simp only [World.size_alloc, World.size_setCell, World.size_drew]; omega) | (simp; omega) | (simp; done))))⟩
end Go.Proofs.Ytigdfcigoejjjaa
