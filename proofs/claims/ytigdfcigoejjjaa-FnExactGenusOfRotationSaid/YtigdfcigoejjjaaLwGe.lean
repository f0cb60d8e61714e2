/- The law FnExactGenusOfRotation. -/
import Derived.Test.YtigdfcigoejjjaaGe2
import Derived.Test.YtigdfcigoejjjaaGlue
import Derived.Test.YtigdfcigoejjjaaCi1
namespace Go.Proofs.Ytigdfcigoejjjaa
open Go.RowKit
set_option linter.unusedSimpArgs false
set_option linter.unusedVariables false
set_option maxRecDepth 20000

set_option maxHeartbeats 4000000 in
theorem lawGe_any (n : Int) (A : Option Addr) (c : Nat) (es : List (Int × Int)) (B : Option Addr) (cb : Nat) (xs : List Int) (w : World) (hl : es.length ≤ 9223372036854775807) (hlx : xs.length ≤ 9223372036854775807) (hr : RdE w A es) (hx : RdI w B xs) :
    Calls Try.prog 4 #[.agg #[.int .i64 n, .slice A es.length c], .slice B xs.length cb] w fun e w' => e = .returned (.bool true) ∧ Below w.heap.size w w' := by
  have cs := fun W => szGraph_any n A es.length c W hl
  by_cases h0 : 1048576 < xs.length
  · have h0' : (1048576 : Int) < (xs.length : Int) := by omega
    clear hr hx cs
    generalize es.length = L at *
    generalize xs.length = M at *
    go_enter Try.func4, Try.ntmps4
    go_wp2
    go_ret
    exact ⟨rfl, by (repeat' (first | (with_reducible exact Below.refl _ _) | (with_reducible assumption) | (with_reducible refine Below.alloc ?_ ?_ _) | (with_reducible refine Below.drew ?_) | (with_reducible refine below_drewN ?_ _) | (with_reducible refine Below.setCell ?_ ?_ _) | (with_reducible refine Below.trans ?_ (Below.mono (by assumption) ?_)) | (first | omega | (simp only [World.size_alloc, World.size_setCell, World.size_drew]; omega) | (simp; omega) | (simp; done))))⟩
  have h0' : ¬ (1048576 : Int) < (xs.length : Int) := by omega
  by_cases h : es.length ≤ 1048576
  · rw [if_pos h] at cs
    obtain ⟨r1, R1⟩ : ∃ r, Hid ((geOf n es xs).1 = r) := ⟨_, rfl⟩
    obtain ⟨r2, R2⟩ : ∃ r, Hid ((geOf n es xs).2 = r) := ⟨_, rfl⟩
    have ct := fun W hW => toGraph_any n A c es W h (RdE.below (w' := W) hr hW)
    have ctx := fun W (hW : Below w.heap.size w W) => toInt64S_any B cb xs W (by omega) (hx.below hW)
    have cp := fun W g gx (hB : Blk W g 83 (cE es).toArray) (hX : Blk W gx 2 (cI xs).toArray) => specGe_b n (some ⟨g, 0, none⟩) es.length es (some ⟨gx, 0, none⟩) xs.length xs W h (by omega) (blkE_rd hB) (blkI_rd hX) r1 r2 R1 R2
    have ci := fun W g gx (hB : Blk W g 83 (cE es).toArray) (hX : Blk W gx 2 (cI xs).toArray) => implGe_b n (some ⟨g, 0, none⟩) es.length es (some ⟨gx, 0, none⟩) xs.length xs W h (by omega) (blkE_rd hB) (blkI_rd hX) r1 r2 R1 R2
    have ce := fun W g g' (hB : Blk W g 83 (cE es).toArray) (hB' : Blk W g' 83 (cE es).toArray) => eqGraph_any n n (some ⟨g, 0, none⟩) (some ⟨g', 0, none⟩) es.length es.length es es W h h (blkE_rd hB) (blkE_rd hB')
    have cex := fun W g g' (hB : Blk W g 2 (cI xs).toArray) (hB' : Blk W g' 2 (cI xs).toArray) => eqInt64S_same (some ⟨g, 0, none⟩) (some ⟨g', 0, none⟩) xs.length xs.length xs xs.length W rfl (by omega) (blkI_rd hB) (blkI_rd hB')
    simp only [decide_true, Bool.and_self] at ce
    have nb : (r1 != r1) = false := by simp
    have h2 : ¬ ((1048576 : Int) - (es.length : Int) < 0) := by omega
    clear hr hx R1 R2
    generalize es.length = L at *
    generalize xs.length = M at *
    go_enter Try.func4, Try.ntmps4
    go_wp2_with fail
    refine (cs _).mono ?_
    rintro e w1 ⟨rfl, hb1⟩
    simp only [World.size_alloc, World.size_setCell, World.size_drew] at hb1; have B1 : Below w.heap.size w w1 := by (repeat' (first | (with_reducible exact Below.refl _ _) | (with_reducible assumption) | (with_reducible refine Below.alloc ?_ ?_ _) | (with_reducible refine Below.drew ?_) | (with_reducible refine below_drewN ?_ _) | (with_reducible refine Below.setCell ?_ ?_ _) | (with_reducible refine Below.trans ?_ (Below.mono (by assumption) ?_)) | (first | omega | (simp only [World.size_alloc, World.size_setCell, World.size_drew]; omega) | (simp; omega) | (simp; done))))
    have K1 : Blk w1 w.heap.size 24 #[.int .i64 n, .slice A L c] := (Blk.new' _ rfl).below hb1 (by omega)
    have d10 := K1.cellAt 0 _ rfl; have d11 := K1.cellAt 1 _ rfl; have z1 := hb1.size; simp only [World.size_alloc, World.size_setCell, World.size_drew] at z1
    go_wp2_with fail
    refine (ct _ B1).mono ?_
    rintro e w2 ⟨g1, rfl, hg1, hE1, hb2⟩
    have B2 := B1.trans (hb2.mono B1.size); have K2 := K1.below hb2 K1.lt; have d20 := K2.cellAt 0 _ rfl; have d21 := K2.cellAt 1 _ rfl; have z2 := B2.size
    go_wp2_with fail
    refine (ctx _ B2).mono ?_
    rintro e w3 ⟨rfl, hX1, hb3⟩
    have B3 := B2.trans (hb3.mono B2.size); have K3 := K2.below hb3 K2.lt; have d30 := K3.cellAt 0 _ rfl; have d31 := K3.cellAt 1 _ rfl; have z3 := B3.size
    go_wp2_with fail
    refine (cp _ _ _ (hE1.below hb3 hE1.lt) hX1).mono ?_
    rintro e w4 ⟨rfl, hb4⟩
    have B4 := B3.trans (hb4.mono B3.size); have K4 := K3.below hb4 K3.lt; have d40 := K4.cellAt 0 _ rfl; have d41 := K4.cellAt 1 _ rfl; have z4 := B4.size
    go_wp2_with fail
    refine (ct _ B4).mono ?_
    rintro e w5 ⟨g2, rfl, hg2, hE2, hb5⟩
    have B5 := B4.trans (hb5.mono B4.size); have K5 := K4.below hb5 K4.lt; have d50 := K5.cellAt 0 _ rfl; have d51 := K5.cellAt 1 _ rfl; have z5 := B5.size
    have X := (Blk.new w5 32 #[.int .i64 n, .slice (some ⟨g2, 0, none⟩) L L])
    have E5 := hE2.alloc (.cells #[.int .i64 n, .slice (some ⟨g2, 0, none⟩) L L] 32)
    have K5' := K5.alloc (.cells #[.int .i64 n, .slice (some ⟨g2, 0, none⟩) L L] 32)
    have B5' : Below w.heap.size w (w5.alloc (.cells #[.int .i64 n, .slice (some ⟨g2, 0, none⟩) L L] 32)) := B5.alloc B5.size _
    clear d10 d11 d20 d21 d30 d31 d40 d41 hb1 hb2 hb3 hb4 hb5 K1 K2 K3 K4 B1 B2 B3 B4 hE1 hE2 hX1
    go_wp2_with fail
    have z5 := X.lt
    have z5' := E5.lt
    generalize w5.alloc (.cells #[.int .i64 n, .slice (some ⟨g2, 0, none⟩) L L] 32) = W5 at *
    refine (ctx _ B5').mono ?_
    rintro e w6 ⟨rfl, hX2, hb6⟩
    have X6 := X.below hb6 X.lt
    have E6 := E5.below hb6 E5.lt
    have K6 := K5'.below hb6 K5'.lt
    have B6 := B5'.trans (hb6.mono B5'.size)
    have x60 := X6.cellAt 0 _ rfl
    have x61 := X6.cellAt 1 _ rfl
    clear X E5 K5' B5' hb6 d50 d51 K5 B5
    go_wp2_with fail
    refine (ci _ _ _ E6 hX2).mono ?_
    rintro e w7 ⟨rfl, hb7⟩
    have X7 := X6.below hb7 X6.lt
    have E7 := E6.below hb7 E6.lt
    have K7 := K6.below hb7 K6.lt
    have B7 := B6.trans (hb7.mono B6.size)
    have HX7 := hX2.below hb7 hX2.lt
    have x0 := X7.cellAt 0 _ rfl
    have x1 := X7.cellAt 1 _ rfl
    have d0 := K7.cellAt 0 _ rfl
    have d1 := K7.cellAt 1 _ rfl
    have z7 := X7.lt
    have z7' := K7.lt
    have z7'' := HX7.lt
    clear X6 E6 K6 B6 hX2 x60 x61 hb7
    go_wp2_with fail
    refine wp_region_noPanic ?_
    refine wp_region_held_drew (S := (fun w' => w'.cell? ⟨w.heap.size, 0, none⟩ = some (.int .i64 n) ∧ w'.cell? ⟨w.heap.size, 1, none⟩ = some (.slice A L c) ∧ w'.cell? ⟨w5.heap.size, 0, none⟩ = some (.int .i64 n) ∧ w'.cell? ⟨w5.heap.size, 1, none⟩ = some (.slice (some ⟨g2, 0, none⟩) L L))) (by kernel_rfl) ?_ (fun hHeld => ?_)
    · (try dsimp only); (first | go_keep | (obtain ⟨hq, _⟩ := bcell ‹Below _ _ _›; (repeat' apply And.intro) <;> (rw [hq _ _ (by first | assumption | omega | (simp; done) | (simp; omega) | (simp; assumption))] <;> (first | assumption | (simp [*]; done)))))
    refine wpAnyH_take_d (i := 0) (d := some 46) (v := ?v1) rfl rfl (by kernel_rfl) (by kernel_rfl) (by kernel_rfl) (fun _ _ _ h => h) (Or.inl ⟨by kernel_rfl, ?y1⟩) (by assumption) ?_
    case y1 => (intro w' hSw; (try dsimp only at hSw); go_simp; try with_reducible rfl)
    try simp only [Act.put, List.setIfInBounds_toArray, List.set_cons_zero, List.set_cons_succ]
    refine wpAnyH_take_d (i := 1) (d := some 47) (v := ?v2) rfl rfl (by kernel_rfl) (by kernel_rfl) (by kernel_rfl) (fun _ _ _ h => h) (Or.inl ⟨by kernel_rfl, ?y2⟩) (by assumption) ?_
    case y2 => (intro w' hSw; (try dsimp only at hSw); go_simp; try with_reducible rfl)
    try simp only [Act.put, List.setIfInBounds_toArray, List.set_cons_zero, List.set_cons_succ]
    refine wpAnyH_ready (rs := [2]) (by kernel_rfl) (by simp) ?_
    refine AllReadyH.cons rfl (fun K hK => ?_) AllReadyH.nil
    go_simp
    refine (ct _ B7.drew).mono ?_; rintro e w8 ⟨g3, rfl, hg3, hE3, hb8⟩; have z8 := hb8.size; (try simp only [World.size_alloc, World.size_setCell, World.size_drew] at z8)
    refine hK.out _ _ ?s3 (fun hHeld3 => ?_)
    case s3 => ((try dsimp only); (first | go_keep | (obtain ⟨hq, _⟩ := bcell ‹Below _ _ _›; (repeat' apply And.intro) <;> (rw [hq _ _ (by first | assumption | omega | (simp; done) | (simp; omega) | (simp; assumption))] <;> (first | assumption | (simp [*]; done))))))
    clear hK K hHeld
    have hHeld := hHeld3; clear hHeld3
    try simp only [Act.put, List.setIfInBounds_toArray, List.set_cons_zero, List.set_cons_succ]
    refine wpAnyH_ready (rs := [3]) (by kernel_rfl) (by simp) ?_
    refine AllReadyH.cons rfl (fun K hK => ?_) AllReadyH.nil
    go_simp
    refine (ce _ _ _ (E7.drew.below hb8 E7.lt) hE3).mono ?_; rintro e w9 ⟨rfl, hb9⟩
    refine hK.out _ _ ?s4 (fun hHeld4 => ?_)
    case s4 => ((try dsimp only); (first | go_keep | (obtain ⟨hq, _⟩ := bcell ‹Below _ _ _›; (repeat' apply And.intro) <;> (rw [hq _ _ (by first | assumption | omega | (simp; done) | (simp; omega) | (simp; assumption))] <;> (first | assumption | (simp [*]; done))))))
    clear hK K hHeld
    have hHeld := hHeld4; clear hHeld4
    try simp only [Act.put, List.setIfInBounds_toArray, List.set_cons_zero, List.set_cons_succ]
    refine wpAnyH_take_d (i := 4) (d := some 50) (v := ?v5) rfl rfl (by kernel_rfl) (by kernel_rfl) (by kernel_rfl) (fun _ _ _ h => h) (Or.inl ⟨by kernel_rfl, ?y5⟩) (by assumption) ?_
    case y5 => (intro w' hSw; (try dsimp only at hSw); go_simp; try with_reducible rfl)
    try simp only [Act.put, List.setIfInBounds_toArray, List.set_cons_zero, List.set_cons_succ]
    refine wpAnyH_done (by kernel_rfl) ?_ _
    refine NoPanic.normal ?_
    clear hHeld
    have B8 : Below w.heap.size w w8 := B7.drew.trans (hb8.mono B7.size)
    have B9 : Below w.heap.size w w9 := B8.trans (hb9.mono B8.size)
    have HX9 := (HX7.drew.below hb8 HX7.lt).below hb9 (by have := (HX7.drew.below hb8 HX7.lt).lt; omega)
    clear hb8 hb9 X7 E7 K7 B7 HX7 x0 x1 d0 d1 B8 hE3
    go_wp2_with fail
    refine (ctx _ B9).mono ?_
    rintro e w10 ⟨rfl, hX10, hb10⟩
    go_wp2_with fail
    refine (cex _ _ _ (HX9.below hb10 HX9.lt) hX10).mono ?_
    rintro e w11 ⟨rfl, hb11⟩
    go_wp2
    go_ret
    exact ⟨rfl, by have B10 := B9.trans (hb10.mono B9.size); exact B10.trans (hb11.mono B10.size)⟩
  · rw [if_neg h] at cs
    clear hr hx
    generalize es.length = L at *
    generalize xs.length = M at *
    go_enter Try.func4, Try.ntmps4
    go_wp2_with fail
    refine (cs _).mono ?_
    rintro e w1 ⟨rfl, hb1⟩
    go_wp2
    go_ret
    exact ⟨rfl, by (repeat' (first | (with_reducible exact Below.refl _ _) | (with_reducible assumption) | (with_reducible refine Below.alloc ?_ ?_ _) | (with_reducible refine Below.drew ?_) | (with_reducible refine below_drewN ?_ _) | (with_reducible refine Below.setCell ?_ ?_ _) | (with_reducible refine Below.trans ?_ (Below.mono (by assumption) ?_)) | (first | omega | (simp only [World.size_alloc, World.size_setCell, World.size_drew]; omega) | (simp; omega) | (simp; done))))⟩
end Go.Proofs.Ytigdfcigoejjjaa
