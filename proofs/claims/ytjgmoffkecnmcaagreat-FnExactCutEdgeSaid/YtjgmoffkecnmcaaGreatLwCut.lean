/- The walk of the law FnExactCutEdge. -/
import Derived.Test.YtjgmoffkecnmcaaGreatCe6
import Derived.Test.YtjgmoffkecnmcaaGreatMk3
import Derived.Test.YtjgmoffkecnmcaaGreatGlue
import Derived.Test.YtjgmoffkecnmcaaGreatCi1
import Derived.Deep.CutBlock
import Derived.Deep.DeepCutAuto
namespace Go.Proofs.YtjgmoffkecnmcaaGreat
open Go.RowKit
set_option linter.unusedSimpArgs false
set_option linter.unusedVariables false
set_option maxRecDepth 20000

set_option maxHeartbeats 8000000 in
theorem lawCut_any (n : Int) (A : Option Addr) (c : Nat) (es : List (Int × Int)) (e : Int) (w : World) (hl : es.length ≤ 9223372036854775807) (hr : RdE w A es) :
    Calls Tryz.prog 3 #[.agg #[.int .i64 n, .slice A es.length c], .int .i64 e] w fun e w' => e = .returned (.bool true) ∧ Below w.heap.size w w' := by
  have cs := fun W => szGraph_any n A es.length c W hl
  by_cases h : es.length ≤ 1048576
  · rw [if_pos h] at cs
    obtain ⟨N, R0⟩ : ∃ r, Hid ((cutV n es e).1 = r) := ⟨_, rfl⟩
    obtain ⟨rs, R1⟩ : ∃ r, Hid ((cutV n es e).2.1 = r) := ⟨_, rfl⟩
    obtain ⟨v, R2⟩ : ∃ r, Hid ((cutV n es e).2.2 = r) := ⟨_, rfl⟩
    obtain ⟨M, HM⟩ : ∃ M, Hid (rs.length = M) := ⟨_, rfl⟩
    have hM : M ≤ 1048576 := by rw [← HM.out, ← R1.out]; exact lenCut n es e h
    have ct := fun W hW => toGraph_any n A c es W h (RdE.below (w' := W) hr hW)
    have cp := fun W g (hB : Blk W g 40 (cE es).toArray) => specCut_b n (some ⟨g, 0, none⟩) es.length es e W h (blkE_rd hB) N rs v R0 R1 R2
    have ci := fun W g (hB : Blk W g 40 (cE es).toArray) => implCut_b n (some ⟨g, 0, none⟩) es.length es e W h (blkE_rd hB) N rs v R0 R1 R2
    have ce := fun W g g' (hB : Blk W g 40 (cE es).toArray) (hB' : Blk W g' 40 (cE es).toArray) => eqGraph_any n n (some ⟨g, 0, none⟩) (some ⟨g', 0, none⟩) es.length es.length es es W h h (blkE_rd hB) (blkE_rd hB')
    simp only [decide_true, Bool.and_self] at ce
    have cq := fun W B B' cb cb' (h1 : RdE W B rs) (h2 : RdE W B' rs) => eqGraph_any N N B B' cb cb' rs rs W (by rw [HM.out]; omega) (by rw [HM.out]; omega) h1 h2
    simp only [decide_true, Bool.and_self, HM.out] at cq
    have cm := fun W (g : Nat) (hg : g ≤ W.heap.size) (hB : FrE W g (some ⟨g, 0, none⟩) es) => markG_b n (some ⟨g, 0, none⟩) es.length es.length 1 g es W rfl (by omega) (by omega) hg hB
    have ck := fun W B cb (n0 T : Nat) (hn : n0 ≤ W.heap.size) (hB : FrE W n0 B rs) (hT : UpE T B rs) => markG_up N B M cb 1 n0 T rs W HM.out (by omega) (by omega) hn hB hT
    have ch := fun W B cb (hB : RdE W B (iotaE 1 M)) => heldG_b N B M cb 1 W (by omega) (by omega) hB
    obtain ⟨k1, N1⟩ : ∃ k : Int, Hid (((1 + 2 * es.length : Nat) : Int) = k) := ⟨_, rfl⟩
    obtain ⟨k2, N2⟩ : ∃ k : Int, Hid (((1 + 2 * M : Nat) : Int) = k) := ⟨_, rfl⟩
    have p1 : ¬ k1 < 0 := by have := N1.out; omega
    have p2 : ¬ k2 < 0 := by have := N2.out; omega
    have p3 : (k2 != k2) = false := by simp
    have p4 : (v != v) = false := by simp
    have hnat : ((1 : Nat) : Int) = 1 := rfl
    simp only [N1.out, hnat] at cm
    simp only [N2.out, hnat] at ck ch
    have h2 : ¬ ((1048576 : Int) - (es.length : Int) < 0) := by omega
    clear hr R0 R1 R2
    generalize es.length = L at *
    go_enter Tryz.func3, Tryz.ntmps3
    go_wp2_with fail
    refine (cs _).mono ?_
    rintro e w1 ⟨rfl, hb1⟩
    simp only [World.size_alloc, World.size_setCell, World.size_drew] at hb1; have B1 : Below w.heap.size w w1 := by (repeat' (first | (with_reducible exact Below.refl _ _) | (with_reducible assumption) | (with_reducible refine Below.alloc ?_ ?_ _) | (with_reducible refine Below.drew ?_) | (with_reducible refine below_drewN ?_ _) | (with_reducible refine Below.setCell ?_ ?_ _) | (with_reducible refine Below.trans ?_ (Below.mono (by assumption) ?_)) | (first | omega | (simp only [World.size_alloc, World.size_setCell, World.size_drew]; omega) | (simp; omega) | (simp; done))))
    have K1 : Blk w1 w.heap.size 24 #[.int .i64 n, .slice A L c] := (Blk.new' _ rfl).below hb1 (by omega)
    have d10 := K1.cellAt 0 _ rfl; have d11 := K1.cellAt 1 _ rfl; have z1 := hb1.size; simp only [World.size_alloc, World.size_setCell, World.size_drew] at z1
    go_wp2_with fail
    refine (ct _ B1).mono ?_
    rintro e w2 ⟨g1, rfl, hg1, hE1, hb2⟩
    have B2 := B1.trans (hb2.mono B1.size); have K2 := K1.below hb2 K1.lt; have d20 := K2.cellAt 0 _ rfl; have d21 := K2.cellAt 1 _ rfl; have z2 := B2.size
    go_wp2_with fail
    refine (cp _ _ hE1).mono ?_
    rintro e w3 ⟨hq3, hb3⟩
    obtain ⟨A3, c3, rfl, hF3⟩ := hq3.open_ HM.out
    have B3 := B2.trans (hb3.mono B2.size); have K3 := K2.below hb3 K2.lt; have d30 := K3.cellAt 0 _ rfl; have d31 := K3.cellAt 1 _ rfl; have z3 := B3.size
    obtain ⟨u3, hu3⟩ : ∃ u, u = w3.alloc (.cells #[.int .i64 N, .slice A3 M c3] 28) := ⟨_, rfl⟩
    have zu3 : u3.heap.size = w3.heap.size + 1 := by rw [hu3]; simp
    have W0 : Hid (RdE u3 A3 rs) := by rw [hu3]; exact hF3.rd.below (Below.alloc (Below.refl _ _) (Nat.le_refl _) _)
    have X0 : Hid (Blk u3 w3.heap.size 28 #[.int .i64 N, .slice A3 M c3]) := by rw [hu3]; exact Blk.new w3 _ _
    have Hu : Hid (Below w.heap.size w u3) := by rw [hu3]; exact B3.alloc B3.size _
    have KU : Hid (Blk u3 w.heap.size 24 #[.int .i64 n, .slice A L c]) := by rw [hu3]; exact K3.alloc _
    have k30 := KU.out.cellAt 0 _ rfl
    have k31 := KU.out.cellAt 1 _ rfl
    rw [hu3] at k30 k31
    have s3 : w.heap.size ≤ u3.heap.size := Hu.out.size
    have s3w : w.heap.size < w3.heap.size := K3.lt
    clear hq3 hF3 cs cp d10 d11 d20 d21 d30 d31 hb1 hb2 hb3 K1 K2 K3 B1 B2 B3 hE1
    go_wp2_with fail
    rw [← hu3]
    refine (ct _ Hu.out).mono ?_
    rintro e w4 ⟨g2, rfl, hg2, hE2, hb4⟩
    obtain ⟨u4, hu4⟩ : ∃ u, u = w4.alloc (.cells #[.int .i64 n, .slice (some ⟨g2, 0, none⟩) L L] 28) := ⟨_, rfl⟩
    have zu4 : u4.heap.size = w4.heap.size + 1 := by rw [hu4]; simp
    have X4 : Hid (Blk u4 w4.heap.size 28 #[.int .i64 n, .slice (some ⟨g2, 0, none⟩) L L]) := by rw [hu4]; exact Blk.new w4 _ _
    have E4 : Hid (Blk u4 g2 40 (cE es).toArray) := by rw [hu4]; exact hE2.alloc _
    have D4 : Hid (Below u3.heap.size u3 u4) := by rw [hu4]; exact hb4.alloc hb4.size _
    have sg : g2 < w4.heap.size := hE2.lt
    have s4 : u3.heap.size ≤ w4.heap.size := hb4.size
    have x40 := X4.out.cellAt 0 _ rfl
    have x41 := X4.out.cellAt 1 _ rfl
    rw [hu4] at x40 x41
    clear hE2 hb4 k30 k31 hu3
    go_wp2_with fail
    rw [← hu4]
    refine (ci _ _ E4.out).mono ?_
    rintro e w5 ⟨hq5, hb5⟩
    obtain ⟨A5, c5, rfl, hF5⟩ := hq5.open_ HM.out
    obtain ⟨u5, hu5⟩ : ∃ u, u = w5.alloc (.cells #[.int .i64 N, .slice A5 M c5] 28) := ⟨_, rfl⟩
    have zu5 : u5.heap.size = w5.heap.size + 1 := by rw [hu5]; simp
    have s5 : u4.heap.size ≤ w5.heap.size := hb5.size
    have b5 : Below w5.heap.size w5 u5 := by rw [hu5]; exact Below.alloc (Below.refl _ _) (Nat.le_refl _) _
    have G5 : Hid (Blk u5 w5.heap.size 28 #[.int .i64 N, .slice A5 M c5]) := by rw [hu5]; exact Blk.new w5 _ _
    have U5 : Hid (UpE w5.heap.size A5 rs) := hF5.up
    have F5 : Hid (FrE u5 u4.heap.size A5 rs) := hF5.below b5
    have V5 : Hid (Below u4.heap.size u4 u5) := hb5.trans (b5.mono s5)
    have D5 : Hid (Below u3.heap.size u3 u5) := D4.out.trans (V5.out.mono (by omega))
    have x50 := G5.out.cellAt 0 _ rfl
    have x51 := G5.out.cellAt 1 _ rfl
    have y50 := (X0.out.below D5.out X0.out.lt).cellAt 0 _ rfl
    have y51 := (X0.out.below D5.out X0.out.lt).cellAt 1 _ rfl
    rw [hu5] at x50 x51 y50 y51
    clear hq5 hF5 hb5 b5 x40 x41 hu4
    go_wp2_with fail
    rw [← hu5]
    refine (cq _ _ _ _ _ F5.out.rd (W0.out.below D5.out)).mono ?_
    rintro e w6 ⟨rfl, hb6⟩
    have V6 : Hid (Below u4.heap.size u4 w6) := V5.out.trans (hb6.mono V5.out.size)
    have D6 : Hid (Below u3.heap.size u3 w6) := D5.out.trans (hb6.mono D5.out.size)
    have F6 := Lib.hid (F5.out.below hb6)
    have G6 : Hid (Blk w6 w5.heap.size 28 #[.int .i64 N, .slice A5 M c5]) := G5.out.below hb6 G5.out.lt
    have X6 : Blk w6 w4.heap.size 28 #[.int .i64 n, .slice (some ⟨g2, 0, none⟩) L L] := X4.out.below V6.out X4.out.lt
    have E6 : Blk w6 g2 40 (cE es).toArray := E4.out.below V6.out E4.out.lt
    have K6 := KU.out.below D6.out KU.out.lt
    have x0 := X6.cellAt 0 _ rfl
    have x1 := X6.cellAt 1 _ rfl
    have d0 := K6.cellAt 0 _ rfl
    have d1 := K6.cellAt 1 _ rfl
    have z6 : w4.heap.size < w6.heap.size := X6.lt
    have z6' : w.heap.size < w6.heap.size := K6.lt
    have B6 : Hid (Below w.heap.size w w6) := Hu.out.trans (D6.out.mono s3)
    clear hb6 x50 x51 y50 y51 hu5 V5 D5 F5 G5
    go_wp2
    refine wp_region_noPanic ?_
    refine wp_region_held_drew (S := (fun w' => w'.cell? ⟨w.heap.size, 0, none⟩ = some (.int .i64 n) ∧ w'.cell? ⟨w.heap.size, 1, none⟩ = some (.slice A L c) ∧ w'.cell? ⟨w4.heap.size, 0, none⟩ = some (.int .i64 n) ∧ w'.cell? ⟨w4.heap.size, 1, none⟩ = some (.slice (some ⟨g2, 0, none⟩) L L))) (by kernel_rfl) ?_ (fun hHeld => ?_)
    · (try dsimp only); (first | go_keep | (obtain ⟨hq, _⟩ := bcell ‹Below _ _ _›; (repeat' apply And.intro) <;> (rw [hq _ _ (by first | assumption | omega | (simp; done) | (simp; omega) | (simp; assumption))] <;> (first | assumption | (simp [*]; done)))))
    refine wpAnyH_take_d (i := 0) (d := some 45) (v := ?v1) rfl rfl (by kernel_rfl) (by kernel_rfl) (by kernel_rfl) (fun _ _ _ h => h) (Or.inl ⟨by kernel_rfl, ?y1⟩) (by assumption) ?_
    case y1 => (intro w' hSw; (try dsimp only at hSw); go_simp; try with_reducible rfl)
    try simp only [Act.put, List.setIfInBounds_toArray, List.set_cons_zero, List.set_cons_succ]
    refine wpAnyH_take_d (i := 1) (d := some 46) (v := ?v2) rfl rfl (by kernel_rfl) (by kernel_rfl) (by kernel_rfl) (fun _ _ _ h => h) (Or.inl ⟨by kernel_rfl, ?y2⟩) (by assumption) ?_
    case y2 => (intro w' hSw; (try dsimp only at hSw); go_simp; try with_reducible rfl)
    try simp only [Act.put, List.setIfInBounds_toArray, List.set_cons_zero, List.set_cons_succ]
    refine wpAnyH_ready (rs := [2]) (by kernel_rfl) (by simp) ?_
    refine AllReadyH.cons rfl (fun K hK => ?_) AllReadyH.nil
    go_simp
    refine (ct _ B6.out.drew).mono ?_; rintro e w7 ⟨g3, rfl, hg3, hE3, hb7⟩; have z7 := hb7.size; (try simp only [World.size_alloc, World.size_setCell, World.size_drew] at z7)
    refine hK.out _ _ ?s3 (fun hHeld3 => ?_)
    case s3 => ((try dsimp only); (first | go_keep | (obtain ⟨hq, _⟩ := bcell ‹Below _ _ _›; (repeat' apply And.intro) <;> (rw [hq _ _ (by first | assumption | omega | (simp; done) | (simp; omega) | (simp; assumption))] <;> (first | assumption | (simp [*]; done))))))
    clear hK K hHeld
    have hHeld := hHeld3; clear hHeld3
    try simp only [Act.put, List.setIfInBounds_toArray, List.set_cons_zero, List.set_cons_succ]
    refine wpAnyH_ready (rs := [3]) (by kernel_rfl) (by simp) ?_
    refine AllReadyH.cons rfl (fun K hK => ?_) AllReadyH.nil
    go_simp
    refine (ce _ _ _ (E6.drew.below hb7 E6.lt) hE3).mono ?_; rintro e w8 ⟨rfl, hb8⟩; have z8 := hb8.size; (try simp only [World.size_alloc, World.size_setCell, World.size_drew] at z8)
    refine hK.out _ _ ?s4 (fun hHeld4 => ?_)
    case s4 => ((try dsimp only); (first | go_keep | (obtain ⟨hq, _⟩ := bcell ‹Below _ _ _›; (repeat' apply And.intro) <;> (rw [hq _ _ (by first | assumption | omega | (simp; done) | (simp; omega) | (simp; assumption))] <;> (first | assumption | (simp [*]; done))))))
    clear hK K hHeld
    have hHeld := hHeld4; clear hHeld4
    try simp only [Act.put, List.setIfInBounds_toArray, List.set_cons_zero, List.set_cons_succ]
    refine wpAnyH_take_d (i := 4) (d := some 49) (v := ?v5) rfl rfl (by kernel_rfl) (by kernel_rfl) (by kernel_rfl) (fun _ _ _ h => h) (Or.inl ⟨by kernel_rfl, ?y5⟩) (by assumption) ?_
    case y5 => (intro w' hSw; (try dsimp only at hSw); go_simp; try with_reducible rfl)
    try simp only [Act.put, List.setIfInBounds_toArray, List.set_cons_zero, List.set_cons_succ]
    refine wpAnyH_done (by kernel_rfl) ?_ _
    refine NoPanic.normal ?_
    have b8 : Below w6.heap.size w6 w8 := (Below.drew (Below.refl _ _)).trans (hb7.trans (hb8.mono z7))
    have V8 : Hid (Below u4.heap.size u4 w8) := V6.out.trans (b8.mono V6.out.size)
    have D8 : Hid (Below u3.heap.size u3 w8) := D6.out.trans (b8.mono D6.out.size)
    have F8 := Lib.hid (F6.out.below b8)
    have G8 : Hid (Blk w8 w5.heap.size 28 #[.int .i64 N, .slice A5 M c5]) := G6.out.below b8 G6.out.lt
    have X8 := X6.below b8 X6.lt
    have E8 := E6.below b8 E6.lt
    have x80 := X8.cellAt 0 _ rfl
    have x81 := X8.cellAt 1 _ rfl
    have ze8 := E8.lt
    clear hHeld X6 E6 K6 F6 G6 D6 V6 x0 x1 d0 d1 hE3 hb7 hb8 b8 B6
    go_wp2_with fail
    refine (cm _ g2 (Nat.le_of_lt ze8) (blkE_fr E8)).mono ?_
    rintro e w9 ⟨rfl, ho9, hb9, _⟩
    have D9 : Hid (Below u3.heap.size u3 w9) := D8.out.trans (hb9.mono hg2)
    have F9 := Lib.hid (F8.out.away ho9 (by omega))
    have G9 : Hid (Blk w9 w5.heap.size 28 #[.int .i64 N, .slice A5 M c5]) := (ho9.block _ G8.out.lt (fun o e9 => by injection e9 with e9; injection e9 with e9; omega)).trans G8.out
    have x50 := G9.out.cellAt 0 _ rfl
    have x51 := G9.out.cellAt 1 _ rfl
    have y50 := (X0.out.below D9.out X0.out.lt).cellAt 0 _ rfl
    have y51 := (X0.out.below D9.out X0.out.lt).cellAt 1 _ rfl
    clear ho9 hb9 F8 D8 V8 G8 X8 x80 x81 E8 ze8
    go_wp2_with fail
    refine (cq _ _ _ _ _ F9.out.rd (W0.out.below D9.out)).mono ?_
    rintro e w10 ⟨rfl, hb10⟩
    have D10 : Hid (Below u3.heap.size u3 w10) := D9.out.trans (hb10.mono D9.out.size)
    have F10 := Lib.hid (F9.out.below hb10)
    have G10 : Hid (Blk w10 w5.heap.size 28 #[.int .i64 N, .slice A5 M c5]) := G9.out.below hb10 G9.out.lt
    have x60 := G10.out.cellAt 0 _ rfl
    have x61 := G10.out.cellAt 1 _ rfl
    have zg10 := G10.out.lt
    have hn10 : u4.heap.size ≤ w10.heap.size := by omega
    clear D9 F9 G9 hb10 x50 x51 y50 y51
    go_wp2_with fail
    refine (ck _ _ _ _ _ hn10 F10.out U5.out).mono ?_
    rintro e w11 ⟨rfl, ho11, hb11, hF11⟩
    have D11 : Hid (Below u3.heap.size u3 w11) := D10.out.trans (hb11.mono (by omega))
    have F11 := Lib.hid hF11
    have G11 : Hid (Blk w11 w5.heap.size 28 #[.int .i64 N, .slice A5 M c5]) := (ho11 _ (Nat.le_refl _) zg10).trans G10.out
    have x50 := G11.out.cellAt 0 _ rfl
    have x51 := G11.out.cellAt 1 _ rfl
    clear ho11 hb11 hF11 D10 F10 G10 x60 x61
    go_wp2_with fail
    refine (ch _ _ _ F11.out.rd).mono ?_
    rintro e w12 ⟨rfl, hb12⟩
    have D12 : Hid (Below u3.heap.size u3 w12) := D11.out.trans (hb12.mono D11.out.size)
    have F12 := Lib.hid (F11.out.below hb12)
    have G12 : Hid (Blk w12 w5.heap.size 28 #[.int .i64 N, .slice A5 M c5]) := G11.out.below hb12 G11.out.lt
    have K12 := KU.out.below D12.out KU.out.lt
    have d120 := K12.cellAt 0 _ rfl
    have d121 := K12.cellAt 1 _ rfl
    clear hb12 D11 F11 G11 x50 x51
    go_wp2_with fail
    refine (ct _ (Hu.out.trans (D12.out.mono s3))).mono ?_
    rintro e w13 ⟨g4, rfl, hg4, hE4, hb13⟩
    have D13 : Hid (Below u3.heap.size u3 w13) := D12.out.trans (hb13.mono D12.out.size)
    have F13 := Lib.hid (F12.out.below hb13)
    have G13 : Hid (Blk w13 w5.heap.size 28 #[.int .i64 N, .slice A5 M c5]) := G12.out.below hb13 G12.out.lt
    clear hb13 D12 F12 G12 K12 d120 d121
    go_wp2_with fail
    refine (ci _ _ hE4).mono ?_
    rintro e w14 ⟨hq14, hb14⟩
    obtain ⟨A14, c14, rfl, hF14⟩ := hq14.open_ HM.out
    obtain ⟨u14, hu14⟩ : ∃ u, u = w14.alloc (.cells #[.int .i64 N, .slice A14 M c14] 28) := ⟨_, rfl⟩
    have b14 : Below w14.heap.size w14 u14 := by rw [hu14]; exact Below.alloc (Below.refl _ _) (Nat.le_refl _) _
    have Y14 : Hid (Blk u14 w14.heap.size 28 #[.int .i64 N, .slice A14 M c14]) := by rw [hu14]; exact Blk.new w14 _ _
    have R14 : Hid (RdE u14 A14 rs) := hF14.rd.below b14
    have b14' : Below w13.heap.size w13 u14 := hb14.trans (b14.mono hb14.size)
    have D14 : Hid (Below u3.heap.size u3 u14) := D13.out.trans (b14'.mono D13.out.size)
    have F14 := Lib.hid (F13.out.below b14')
    have G14 : Hid (Blk u14 w5.heap.size 28 #[.int .i64 N, .slice A5 M c5]) := G13.out.below b14' G13.out.lt
    have x50 := Y14.out.cellAt 0 _ rfl
    have x51 := Y14.out.cellAt 1 _ rfl
    have y50 := (X0.out.below D14.out X0.out.lt).cellAt 0 _ rfl
    have y51 := (X0.out.below D14.out X0.out.lt).cellAt 1 _ rfl
    rw [hu14] at x50 x51 y50 y51
    clear hb14 b14 b14' D13 F13 G13 hF14 hq14 hE4
    go_wp2_with fail
    rw [← hu14]
    refine (cq _ _ _ _ _ R14.out (W0.out.below D14.out)).mono ?_
    rintro e w15 ⟨rfl, hb15⟩
    have D15 : Hid (Below u3.heap.size u3 w15) := D14.out.trans (hb15.mono D14.out.size)
    have F15 := Lib.hid (F14.out.below hb15)
    have G15 : Hid (Blk w15 w5.heap.size 28 #[.int .i64 N, .slice A5 M c5]) := G14.out.below hb15 G14.out.lt
    have x60 := G15.out.cellAt 0 _ rfl
    have x61 := G15.out.cellAt 1 _ rfl
    clear hb15 D14 F14 G14 x50 x51 y50 y51 hu14
    go_wp2_with fail
    refine (ch _ _ _ F15.out.rd).mono ?_
    rintro e w16 ⟨rfl, hb16⟩
    have D16 : Hid (Below u3.heap.size u3 w16) := D15.out.trans (hb16.mono D15.out.size)
    clear hb16 D15 F15 G15 x60 x61
    go_wp2
    go_ret
    exact ⟨rfl, Hu.out.trans (D16.out.mono s3)⟩
  · rw [if_neg h] at cs
    clear hr
    generalize es.length = L at *
    go_enter Tryz.func3, Tryz.ntmps3
    go_wp2_with fail
    refine (cs _).mono ?_
    rintro e w1 ⟨rfl, hb1⟩
    go_wp2
    go_ret
    exact ⟨rfl, by (repeat' (first | (with_reducible exact Below.refl _ _) | (with_reducible assumption) | (with_reducible refine Below.alloc ?_ ?_ _) | (with_reducible refine Below.drew ?_) | (with_reducible refine below_drewN ?_ _) | (with_reducible refine Below.setCell ?_ ?_ _) | (with_reducible refine Below.trans ?_ (Below.mono (by assumption) ?_)) | (first | omega | (simp only [World.size_alloc, World.size_setCell, World.size_drew]; omega) | (simp; omega) | (simp; done))))⟩
end Go.Proofs.YtjgmoffkecnmcaaGreat
