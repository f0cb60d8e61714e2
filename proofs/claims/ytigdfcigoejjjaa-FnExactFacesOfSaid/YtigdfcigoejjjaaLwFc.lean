/- The walk of the law FnExactFacesOf. -/
import Derived.Test.YtigdfcigoejjjaaFc1
import Derived.Test.YtigdfcigoejjjaaGlue
import Derived.Test.YtigdfcigoejjjaaCi1
import Derived.Test.YtigdfcigoejjjaaMk1
namespace Go.Proofs.Ytigdfcigoejjjaa
open Go.RowKit
set_option linter.unusedSimpArgs false
set_option linter.unusedVariables false
set_option maxRecDepth 20000

theorem totL_snoc (l : List (List Int)) (x : List Int) : totL (l ++ [x]) = totL l + x.length := by
  unfold totL offL
  rw [List.take_of_length_le (Nat.le_refl _), List.take_of_length_le (Nat.le_refl _), List.map_append, List.sum_append]
  simp
theorem facesT_tot (nx : Nat → Nat) (n : Nat) : ∀ k, k ≤ n → totL (facesT nx n k).2 + openN (facesT nx n k).1 ≤ n
  | 0, _ => by
    have h1 : totL (facesT nx n 0).2 = 0 := by simp [facesT, totL, offL]
    have h2 : openN (facesT nx n 0).1 = n := openN_rep n
    omega
  | k + 1, hk => by
    have ih := facesT_tot nx n k (by omega)
    have hs := facesT_step nx n k
    cases hq : (facesT nx n k).1.getD k true
    · rw [hs.2 hq]
      dsimp only
      rw [totL_snoc]
      obtain ⟨r, hr⟩ := runF_face (nx := nx) n (facesT nx n k).1 [] k
      rcases hr with ⟨h1, h2⟩ | h1
      · rw [h1, List.nil_append]; omega
      · rw [facesT_len] at h1; omega
    · rw [hs.1 hq]; exact ih
theorem fcOf_small (n : Int) (es : List (Int × Int)) (rot : List Int) : (fcOf n es rot).1.length ≤ 60 ∧ totL (fcOf n es rot).1 ≤ 60 := by
  unfold fcOf
  dsimp only
  split
  · rename_i h
    rw [Bool.and_eq_true] at h
    have h30 := isGraphB_len h.1
    have h1 := facesV_le es rot
    have h2 := facesT_tot (nxD es rot) (2 * es.length) (2 * es.length) (Nat.le_refl _)
    have h3 : totL (facesV es rot) = totL (facesT (nxD es rot) (2 * es.length) (2 * es.length)).2 := rfl
    omega
  · simp [totL, offL]
set_option maxHeartbeats 8000000 in
theorem lawFc_any (n : Int) (A : Option Addr) (c : Nat) (es : List (Int × Int)) (B : Option Addr) (cb : Nat) (xs : List Int) (w : World) (hl : es.length ≤ 9223372036854775807) (hlx : xs.length ≤ 9223372036854775807) (hr : RdE w A es) (hx : RdI w B xs) :
    Calls Try.prog 3 #[.agg #[.int .i64 n, .slice A es.length c], .slice B xs.length cb] w fun e w' => e = .returned (.bool true) ∧ Below w.heap.size w w' := by
  have cs := fun W => szGraph_any n A es.length c W hl
  by_cases h0 : 1048576 < xs.length
  · have h0' : (1048576 : Int) < (xs.length : Int) := by omega
    clear hr hx cs
    generalize es.length = L at *
    generalize xs.length = M at *
    go_enter Try.func3, Try.ntmps3
    go_wp2
    go_ret
    exact ⟨rfl, by (repeat' (first | (with_reducible exact Below.refl _ _) | (with_reducible assumption) | (with_reducible refine Below.alloc ?_ ?_ _) | (with_reducible refine Below.drew ?_) | (with_reducible refine below_drewN ?_ _) | (with_reducible refine Below.setCell ?_ ?_ _) | (with_reducible refine Below.trans ?_ (Below.mono (by assumption) ?_)) | (first | omega | (simp only [World.size_alloc, World.size_setCell, World.size_drew]; omega) | (simp; omega) | (simp; done))))⟩
  have h0' : ¬ (1048576 : Int) < (xs.length : Int) := by omega
  by_cases h : es.length ≤ 1048576
  · rw [if_pos h] at cs
    obtain ⟨r1, R1⟩ : ∃ r, Hid ((fcOf n es xs).1 = r) := ⟨_, rfl⟩
    obtain ⟨r2, R2⟩ : ∃ r, Hid ((fcOf n es xs).2 = r) := ⟨_, rfl⟩
    have hsm := fcOf_small n es xs
    rw [R1.out] at hsm
    obtain ⟨S, HS⟩ : ∃ S, Hid (r1.length = S) := ⟨_, rfl⟩
    have hS : S ≤ 60 := by rw [← HS.out]; exact hsm.1
    have hT := hsm.2
    have ct := Lib.hid fun W hW => toGraph_any n A c es W h (RdE.below (w' := W) hr hW)
    have ctx := Lib.hid fun W (hW : Below w.heap.size w W) => toInt64S_any B cb xs W (by omega) (hx.below hW)
    have cp := Lib.hid fun W g gx (hB : Blk W g 83 (cE es).toArray) (hX : Blk W gx 2 (cI xs).toArray) => specFc_b n (some ⟨g, 0, none⟩) es.length es (some ⟨gx, 0, none⟩) xs.length xs W h (by omega) (blkE_rd hB) (blkI_rd hX) r1 r2 R1 R2
    have ci := Lib.hid fun W g gx (hB : Blk W g 83 (cE es).toArray) (hX : Blk W gx 2 (cI xs).toArray) => implFc_b n (some ⟨g, 0, none⟩) es.length es (some ⟨gx, 0, none⟩) xs.length xs W h (by omega) (blkE_rd hB) (blkI_rd hX) r1 r2 R1 R2
    have ce := fun W g g' (hB : Blk W g 83 (cE es).toArray) (hB' : Blk W g' 83 (cE es).toArray) => eqGraph_any n n (some ⟨g, 0, none⟩) (some ⟨g', 0, none⟩) es.length es.length es es W h h (blkE_rd hB) (blkE_rd hB')
    have cex := Lib.hid fun W g g' (hB : Blk W g 2 (cI xs).toArray) (hB' : Blk W g' 2 (cI xs).toArray) => eqInt64S_same (some ⟨g, 0, none⟩) (some ⟨g', 0, none⟩) xs.length xs.length xs xs.length W rfl (by omega) (blkI_rd hB) (blkI_rd hB')
    simp only [decide_true, Bool.and_self] at ce
    have ce := Lib.hid ce
    have cq := Lib.hid fun W A1 A2 c1 c2 (h1 : RdL W A1 r1) (h2 : RdL W A2 r1) => eqLL_b A1 A2 S c1 c2 r1 W HS.out (by omega) (by omega) h1 h2
    have cm := fun W (g : Nat) (hg : g ≤ W.heap.size) (hB : FrE W g (some ⟨g, 0, none⟩) es) => markG_b n (some ⟨g, 0, none⟩) es.length es.length 1 g es W rfl (by omega) (by omega) hg hB
    have cmx := fun W (g : Nat) (hg : g ≤ W.heap.size) (hB : FrI W g (some ⟨g, 0, none⟩) xs) => markI_b (some ⟨g, 0, none⟩) xs.length xs.length (1 + 2 * es.length) g xs W rfl (by omega) (by omega) hg hB
    have ck := fun W A1 c1 (n0 : Nat) (hn : n0 ≤ W.heap.size) (hB : FrL W n0 A1 r1) => markLL_b A1 S c1 1 n0 r1 W HS.out (by omega) (by omega) (by omega) hn hB
    have ch := fun W A1 c1 (hB : RdL W A1 (markL 1 r1)) => heldLL_b A1 S c1 1 r1 W HS.out (by omega) (by omega) (by omega) hB
    obtain ⟨k1, N1⟩ : ∃ k : Int, Hid (((1 + 2 * es.length : Nat) : Int) = k) := ⟨_, rfl⟩
    obtain ⟨k2, N2⟩ : ∃ k : Int, Hid (((1 + 2 * es.length + xs.length : Nat) : Int) = k) := ⟨_, rfl⟩
    obtain ⟨k3, N3⟩ : ∃ k : Int, Hid (((1 + totL r1 : Nat) : Int) = k) := ⟨_, rfl⟩
    have p2 : ¬ k2 < 0 := by have := N2.out; omega
    have p3 : ¬ k3 < 0 := by have := N3.out; omega
    have q3 : (k3 != k3) = false := by simp
    have p4 : (r2 != r2) = false := by simp
    have hnat : ((1 : Nat) : Int) = 1 := rfl
    simp only [N1.out, hnat] at cm
    simp only [N1.out, N2.out] at cmx
    simp only [N3.out, hnat] at ck ch
    have cm := Lib.hid cm
    have cmx := Lib.hid cmx
    have ck := Lib.hid ck
    have ch := Lib.hid ch
    have h2 : ¬ ((1048576 : Int) - (es.length : Int) < 0) := by omega
    clear hr hx R1 R2 hsm hT N1 N2 N3 hnat
    generalize es.length = L at *
    generalize xs.length = M at *
    go_enter Try.func3, Try.ntmps3
    go_wp2_with fail
    refine (cs _).mono ?_
    rintro e w1 ⟨rfl, hb1⟩
    simp only [World.size_alloc, World.size_setCell, World.size_drew] at hb1; have B1 : Below w.heap.size w w1 := by (repeat' (first | (with_reducible exact Below.refl _ _) | (with_reducible assumption) | (with_reducible refine Below.alloc ?_ ?_ _) | (with_reducible refine Below.drew ?_) | (with_reducible refine below_drewN ?_ _) | (with_reducible refine Below.setCell ?_ ?_ _) | (with_reducible refine Below.trans ?_ (Below.mono (by assumption) ?_)) | (first | omega | (simp only [World.size_alloc, World.size_setCell, World.size_drew]; omega) | (simp; omega) | (simp; done))))
    have K1 : Blk w1 w.heap.size 24 #[.int .i64 n, .slice A L c] := (Blk.new' _ rfl).below hb1 (by omega)
    have d10 := K1.cellAt 0 _ rfl; have d11 := K1.cellAt 1 _ rfl; have z1 := hb1.size; simp only [World.size_alloc, World.size_setCell, World.size_drew] at z1
    go_wp2_with fail
    refine (ct.out _ B1).mono ?_
    rintro e w2 ⟨g1, rfl, hg1, hE1, hb2⟩
    have B2 := B1.trans (hb2.mono B1.size); have K2 := K1.below hb2 K1.lt; have d20 := K2.cellAt 0 _ rfl; have d21 := K2.cellAt 1 _ rfl; have z2 := B2.size
    go_wp2_with fail
    refine (ctx.out _ B2).mono ?_
    rintro e w3 ⟨rfl, hX1, hb3⟩
    have B3 := B2.trans (hb3.mono B2.size); have K3 := K2.below hb3 K2.lt; have d30 := K3.cellAt 0 _ rfl; have d31 := K3.cellAt 1 _ rfl; have z3 := B3.size
    go_wp2_with fail
    refine (cp.out _ _ _ (hE1.below hb3 hE1.lt) hX1).mono ?_
    rintro e w4 ⟨hq4, hb4⟩
    obtain ⟨A4, c4, rfl, hF4⟩ := hq4.open_ HS.out
    have B4 := B3.trans (hb4.mono B3.size); have K4 := K3.below hb4 K3.lt; have d40 := K4.cellAt 0 _ rfl; have d41 := K4.cellAt 1 _ rfl; have z4 := B4.size
    have W0 := Lib.hid hF4.rd
    have KB4 := Lib.hid K4
    have HB4 := Lib.hid B4
    clear hq4 hF4 d10 d11 d20 d21 d30 d31 hb1 hb2 hb3 hb4 K1 K2 K3 B1 B2 B3 hE1 hX1 z1 z2 z3
    go_wp2_with fail
    refine (ct.out _ HB4.out).mono ?_
    rintro e w5 ⟨g2, rfl, hg2, hE2, hb5⟩
    have X := (Blk.new w5 32 #[.int .i64 n, .slice (some ⟨g2, 0, none⟩) L L])
    have hab5 : Below w5.heap.size w5 (w5.alloc (.cells #[.int .i64 n, .slice (some ⟨g2, 0, none⟩) L L] 32)) := (Below.refl _ _).alloc (Nat.le_refl _) _
    have D5 : Hid (Below w4.heap.size w4 (w5.alloc (.cells #[.int .i64 n, .slice (some ⟨g2, 0, none⟩) L L] 32))) := hb5.trans (hab5.mono hb5.size)
    have E5 := hE2.alloc (.cells #[.int .i64 n, .slice (some ⟨g2, 0, none⟩) L L] 32)
    have hg2l : g2 < w5.heap.size := hE2.lt
    have s45 : w4.heap.size ≤ w5.heap.size := hb5.size
    clear hab5 hE2 hb5 d40 d41 K4 B4 z4
    have HBW : Hid (∀ W, Below w4.heap.size w4 W → Below w.heap.size w W) := fun W hW => HB4.out.trans (hW.mono HB4.out.size)
    have HKW : Hid (∀ W, Below w4.heap.size w4 W → W.cell? ⟨w.heap.size, 0, none⟩ = some (.int .i64 n) ∧ W.cell? ⟨w.heap.size, 1, none⟩ = some (.slice A L c)) := fun W hW => by
      have hK := KB4.out.below hW KB4.out.lt
      exact ⟨hK.cellAt 0 _ rfl, hK.cellAt 1 _ rfl⟩
    have HWR : Hid (∀ W, Below w4.heap.size w4 W → RdL W A4 r1) := fun W hW => rdL_below W0.out hW
    have hxl : w5.heap.size < (w5.alloc (.cells #[.int .i64 n, .slice (some ⟨g2, 0, none⟩) L L] 32)).heap.size := by simp
    have hwlt : w.heap.size < w4.heap.size := KB4.out.lt
    clear W0 KB4 HB4
    go_wp2_with fail
    generalize w5.alloc (.cells #[.int .i64 n, .slice (some ⟨g2, 0, none⟩) L L] 32) = V5 at *
    refine (ctx.out _ (HBW.out _ D5.out)).mono ?_
    rintro e w6 ⟨rfl, hX2, hb6⟩
    obtain ⟨xg, Hxg⟩ : ∃ xg, Hid (w5.heap.size = xg) := ⟨_, rfl⟩
    obtain ⟨gx, Hgx⟩ : ∃ gx, Hid (V5.heap.size = gx) := ⟨_, rfl⟩
    have D6 : Hid (Below w4.heap.size w4 w6) := D5.out.trans (hb6.mono D5.out.size)
    have E6 := E5.below hb6 E5.lt
    have X6 := X.below hb6 X.lt
    rw [Hgx.out] at hX2 hxl
    rw [Hxg.out] at X6 hxl hg2l s45
    rw [Hgx.out]
    rw [Hxg.out]
    have x60 := X6.cellAt 0 _ rfl
    have x61 := X6.cellAt 1 _ rfl
    have hgx6 : gx < w6.heap.size := hX2.lt
    clear D5 E5 X hb6
    go_wp2_with fail
    refine (ci.out _ _ _ E6 hX2).mono ?_
    rintro e w7 ⟨hq7, hb7⟩
    obtain ⟨A7, c7, rfl, hF7⟩ := hq7.open_ HS.out
    obtain ⟨n0, Hn0⟩ : ∃ n0, Hid (w6.heap.size = n0) := ⟨_, rfl⟩
    have D7 : Hid (Below w4.heap.size w4 w7) := D6.out.trans (hb7.mono D6.out.size)
    have E7 := E6.below hb7 E6.lt
    have X7 := X6.below hb7 X6.lt
    have I7 := hX2.below hb7 hX2.lt
    have F7 := Lib.hid hF7
    rw [Hn0.out] at F7 hgx6
    have hn7 : n0 ≤ w7.heap.size := by rw [← Hn0.out]; exact hb7.size
    clear hq7 hb7 hF7 D6 E6 X6 hX2 x60 x61
    go_wp2_with fail
    refine (cq.out _ _ _ _ _ F7.out.rd (HWR.out _ D7.out)).mono ?_
    rintro e w8 ⟨rfl, hb8⟩
    have D8 : Hid (Below w4.heap.size w4 w8) := D7.out.trans (hb8.mono D7.out.size)
    have E8 := E7.below hb8 E7.lt
    have X8 := X7.below hb8 X7.lt
    have I8 := I7.below hb8 I7.lt
    have F8 := Lib.hid (F7.out.below hb8)
    have hn8 : n0 ≤ w8.heap.size := Nat.le_trans hn7 hb8.size
    have x0 := X8.cellAt 0 _ rfl
    have x1 := X8.cellAt 1 _ rfl
    obtain ⟨d0, d1⟩ := HKW.out _ D8.out
    have z8 := X8.lt
    have z8' : w.heap.size < w8.heap.size := by have := D8.out.size; omega
    clear D7 E7 X7 I7 F7 hb8 hn7
    go_wp2
    refine wp_region_noPanic ?_
    refine wp_region_held_drew (S := (fun w' => w'.cell? ⟨w.heap.size, 0, none⟩ = some (.int .i64 n) ∧ w'.cell? ⟨w.heap.size, 1, none⟩ = some (.slice A L c) ∧ w'.cell? ⟨xg, 0, none⟩ = some (.int .i64 n) ∧ w'.cell? ⟨xg, 1, none⟩ = some (.slice (some ⟨g2, 0, none⟩) L L))) (by kernel_rfl) ?_ (fun hHeld => ?_)
    · (try dsimp only); (first | go_keep | (obtain ⟨hq, _⟩ := bcell ‹Below _ _ _›; (repeat' apply And.intro) <;> (rw [hq _ _ (by first | assumption | omega | (simp; done) | (simp; omega) | (simp; assumption))] <;> (first | assumption | (simp [*]; done)))))
    refine wpAnyH_take_d (i := 0) (d := some 52) (v := ?v1) rfl rfl (by kernel_rfl) (by kernel_rfl) (by kernel_rfl) (fun _ _ _ h => h) (Or.inl ⟨by kernel_rfl, ?y1⟩) (by assumption) ?_
    case y1 => (intro w' hSw; (try dsimp only at hSw); go_simp; try with_reducible rfl)
    try simp only [Act.put, List.setIfInBounds_toArray, List.set_cons_zero, List.set_cons_succ]
    refine wpAnyH_take_d (i := 1) (d := some 53) (v := ?v2) rfl rfl (by kernel_rfl) (by kernel_rfl) (by kernel_rfl) (fun _ _ _ h => h) (Or.inl ⟨by kernel_rfl, ?y2⟩) (by assumption) ?_
    case y2 => (intro w' hSw; (try dsimp only at hSw); go_simp; try with_reducible rfl)
    try simp only [Act.put, List.setIfInBounds_toArray, List.set_cons_zero, List.set_cons_succ]
    refine wpAnyH_ready (rs := [2]) (by kernel_rfl) (by simp) ?_
    refine AllReadyH.cons rfl (fun K hK => ?_) AllReadyH.nil
    go_simp
    refine (ct.out _ ((HBW.out _ D8.out).drew)).mono ?_; rintro e w9 ⟨g3, rfl, hg3, hE3, hb9⟩; have z9 := hb9.size; (try simp only [World.size_alloc, World.size_setCell, World.size_drew] at z9)
    refine hK.out _ _ ?s3 (fun hHeld3 => ?_)
    case s3 => ((try dsimp only); (first | go_keep | (obtain ⟨hq, _⟩ := bcell ‹Below _ _ _›; (repeat' apply And.intro) <;> (rw [hq _ _ (by first | assumption | omega | (simp; done) | (simp; omega) | (simp; assumption))] <;> (first | assumption | (simp [*]; done))))))
    clear hK K hHeld
    have hHeld := hHeld3; clear hHeld3
    try simp only [Act.put, List.setIfInBounds_toArray, List.set_cons_zero, List.set_cons_succ]
    refine wpAnyH_ready (rs := [3]) (by kernel_rfl) (by simp) ?_
    refine AllReadyH.cons rfl (fun K hK => ?_) AllReadyH.nil
    go_simp
    refine (ce.out _ _ _ (E8.drew.below hb9 E8.lt) hE3).mono ?_; rintro e w10 ⟨rfl, hb10⟩; have z10 := hb10.size; (try simp only [World.size_alloc, World.size_setCell, World.size_drew] at z10)
    refine hK.out _ _ ?s4 (fun hHeld4 => ?_)
    case s4 => ((try dsimp only); (first | go_keep | (obtain ⟨hq, _⟩ := bcell ‹Below _ _ _›; (repeat' apply And.intro) <;> (rw [hq _ _ (by first | assumption | omega | (simp; done) | (simp; omega) | (simp; assumption))] <;> (first | assumption | (simp [*]; done))))))
    clear hK K hHeld
    have hHeld := hHeld4; clear hHeld4
    try simp only [Act.put, List.setIfInBounds_toArray, List.set_cons_zero, List.set_cons_succ]
    refine wpAnyH_take_d (i := 4) (d := some 56) (v := ?v5) rfl rfl (by kernel_rfl) (by kernel_rfl) (by kernel_rfl) (fun _ _ _ h => h) (Or.inl ⟨by kernel_rfl, ?y5⟩) (by assumption) ?_
    case y5 => (intro w' hSw; (try dsimp only at hSw); go_simp; try with_reducible rfl)
    try simp only [Act.put, List.setIfInBounds_toArray, List.set_cons_zero, List.set_cons_succ]
    refine wpAnyH_done (by kernel_rfl) ?_ _
    refine NoPanic.normal ?_
    clear hHeld
    have b10 : Below w8.heap.size w8 w10 := (Below.drew (Below.refl _ _)).trans (hb9.trans (hb10.mono z9))
    have D10 : Hid (Below w4.heap.size w4 w10) := D8.out.trans (b10.mono D8.out.size)
    have E10 := E8.below b10 E8.lt
    have X10 := X8.below b10 X8.lt
    have I10 := I8.below b10 I8.lt
    have F10 := Lib.hid (F8.out.below b10)
    have hn10 : n0 ≤ w10.heap.size := Nat.le_trans hn8 b10.size
    clear D8 E8 X8 I8 F8 b10 hb9 hb10 x0 x1 d0 d1 hE3 hg3 z8 z8' hn8
    go_wp2_with fail
    refine (ctx.out _ (HBW.out _ D10.out)).mono ?_
    rintro e w11 ⟨rfl, hX11, hb11⟩
    go_wp2_with fail
    refine (cex.out _ _ _ (I10.below hb11 I10.lt) hX11).mono ?_
    rintro e w12 ⟨rfl, hb12⟩
    have b12 : Below w10.heap.size w10 w12 := hb11.trans (hb12.mono hb11.size)
    have D12 : Hid (Below w4.heap.size w4 w12) := D10.out.trans (b12.mono D10.out.size)
    have E12 := E10.below b12 E10.lt
    have X12 := X10.below b12 X10.lt
    have I12 := Lib.hid (I10.below b12 I10.lt)
    have F12 := Lib.hid (F10.out.below b12)
    have hn12 : n0 ≤ w12.heap.size := Nat.le_trans hn10 b12.size
    have x120 := X12.cellAt 0 _ rfl
    have x121 := X12.cellAt 1 _ rfl
    have ze12 := E12.lt
    clear D10 E10 X10 I10 F10 b12 hb11 hb12 hX11 hn10
    go_wp2_with fail
    refine (cm.out _ g2 (Nat.le_of_lt ze12) (blkE_fr E12)).mono ?_
    rintro e w13 ⟨rfl, ho13, hb13, _⟩
    have hg24 : w4.heap.size ≤ g2 := hg2
    have D13 : Hid (Below w4.heap.size w4 w13) := D12.out.trans (hb13.mono hg24)
    have F13 := Lib.hid (F12.out.away ho13 (by omega))
    have I13 : Hid (Blk w13 gx 2 (cI xs).toArray) := (ho13.block gx I12.out.lt (fun o e => by injection e with e; injection e with e; omega)).trans I12.out
    have hn13 : n0 ≤ w13.heap.size := Nat.le_trans hn12 hb13.size
    clear D12 F12 I12 E12 X12 x120 x121 ho13 hb13 ze12 hn12
    go_wp2_with fail
    refine (cmx.out _ gx (Nat.le_of_lt I13.out.lt) (blkI_fr I13.out)).mono ?_
    rintro e w14 ⟨rfl, ho14, hb14, _⟩
    have D14 : Hid (Below w4.heap.size w4 w14) := D13.out.trans (hb14.mono (by omega))
    have F14 := Lib.hid (F13.out.away ho14 (by omega))
    have hn14 : n0 ≤ w14.heap.size := Nat.le_trans hn13 hb14.size
    clear D13 F13 I13 ho14 hb14 hn13
    go_wp2_with fail
    refine (cq.out _ _ _ _ _ F14.out.rd (HWR.out _ D14.out)).mono ?_
    rintro e w15 ⟨rfl, hb15⟩
    have D15 : Hid (Below w4.heap.size w4 w15) := D14.out.trans (hb15.mono D14.out.size)
    have F15 := Lib.hid (F14.out.below hb15)
    have hn15 : n0 ≤ w15.heap.size := Nat.le_trans hn14 hb15.size
    clear D14 F14 hb15 hn14
    go_wp2_with fail
    refine (ck.out _ _ _ _ hn15 F15.out).mono ?_
    rintro e w16 ⟨rfl, hb16, hF16⟩
    have D16 : Hid (Below w4.heap.size w4 w16) := D15.out.trans (hb16.mono (by omega))
    have F16 := Lib.hid hF16
    clear D15 F15 hb16 hF16 hn15
    go_wp2_with fail
    refine (ch.out _ _ _ F16.out.rd).mono ?_
    rintro e w17 ⟨rfl, hb17⟩
    have D17 : Hid (Below w4.heap.size w4 w17) := D16.out.trans (hb17.mono D16.out.size)
    have F17 := Lib.hid (F16.out.below hb17)
    obtain ⟨d170, d171⟩ := HKW.out _ D17.out
    clear D16 F16 hb17
    go_wp2_with fail
    refine (ct.out _ (HBW.out _ D17.out)).mono ?_
    rintro e w18 ⟨g4, rfl, hg4, hE4, hb18⟩
    have D18 : Hid (Below w4.heap.size w4 w18) := D17.out.trans (hb18.mono D17.out.size)
    have F18 := Lib.hid (F17.out.below hb18)
    clear D17 F17 hb18 d170 d171
    go_wp2_with fail
    refine (ctx.out _ (HBW.out _ D18.out)).mono ?_
    rintro e w19 ⟨rfl, hX19, hb19⟩
    have D19 : Hid (Below w4.heap.size w4 w19) := D18.out.trans (hb19.mono D18.out.size)
    have F19 := Lib.hid (F18.out.below hb19)
    have E19 := hE4.below hb19 hE4.lt
    clear D18 F18 hb19 hE4
    go_wp2_with fail
    refine (ci.out _ _ _ E19 hX19).mono ?_
    rintro e w20 ⟨hq20, hb20⟩
    obtain ⟨A20, c20, rfl, hF20⟩ := hq20.open_ HS.out
    have D20 : Hid (Below w4.heap.size w4 w20) := D19.out.trans (hb20.mono D19.out.size)
    have F20 := Lib.hid (F19.out.below hb20)
    have G20 := Lib.hid hF20
    clear D19 F19 hb20 hF20 hq20 E19 hX19
    go_wp2_with fail
    refine (cq.out _ _ _ _ _ G20.out.rd (HWR.out _ D20.out)).mono ?_
    rintro e w21 ⟨rfl, hb21⟩
    have D21 : Hid (Below w4.heap.size w4 w21) := D20.out.trans (hb21.mono D20.out.size)
    have F21 := Lib.hid (F20.out.below hb21)
    clear D20 F20 hb21 G20
    go_wp2_with fail
    refine (ch.out _ _ _ F21.out.rd).mono ?_
    rintro e w22 ⟨rfl, hb22⟩
    have D22 : Hid (Below w4.heap.size w4 w22) := D21.out.trans (hb22.mono D21.out.size)
    clear D21 F21 hb22
    go_wp2
    go_ret
    exact ⟨rfl, HBW.out _ D22.out⟩
  · rw [if_neg h] at cs
    clear hr hx
    generalize es.length = L at *
    generalize xs.length = M at *
    go_enter Try.func3, Try.ntmps3
    go_wp2_with fail
    refine (cs _).mono ?_
    rintro e w1 ⟨rfl, hb1⟩
    go_wp2
    go_ret
    exact ⟨rfl, by (repeat' (first | (with_reducible exact Below.refl _ _) | (with_reducible assumption) | (with_reducible refine Below.alloc ?_ ?_ _) | (with_reducible refine Below.drew ?_) | (with_reducible refine below_drewN ?_ _) | (with_reducible refine Below.setCell ?_ ?_ _) | (with_reducible refine Below.trans ?_ (Below.mono (by assumption) ?_)) | (first | omega | (simp only [World.size_alloc, World.size_setCell, World.size_drew]; omega) | (simp; omega) | (simp; done))))⟩
end Go.Proofs.Ytigdfcigoejjjaa
