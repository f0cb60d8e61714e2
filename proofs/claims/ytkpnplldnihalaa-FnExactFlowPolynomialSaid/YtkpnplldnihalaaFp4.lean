/- The walk of the law FnExactFlowPolynomial. -/
import Derived.Test.YtkpnplldnihalaaFp3
import Derived.Test.YtkpnplldnihalaaMk2
import Derived.Test.YtkpnplldnihalaaGlue3
import Derived.Test.YtkpnplldnihalaaCi1
namespace Go.Proofs.Ytkpnplldnihalaa
open Go.RowKit
set_option linter.unusedSimpArgs false
set_option linter.unusedVariables false
set_option maxRecDepth 20000

set_option maxHeartbeats 8000000 in
theorem lawFp_any (n : Int) (A : Option Addr) (c : Nat) (es : List (Int × Int)) (w : World) (hl : es.length ≤ 9223372036854775807) (hr : RdE w A es) :
    Calls Try.prog 8 #[.agg #[.int .i64 n, .slice A es.length c]] w fun e w' => e = .returned (.bool true) ∧ Below w.heap.size w w' := by
  have cs := fun W => szGraph_any n A es.length c W hl
  by_cases h : es.length ≤ 1048576
  · rw [if_pos h] at cs
    obtain ⟨xs, R1⟩ : ∃ r, Hid ((fpOf n es).1 = r) := ⟨_, rfl⟩
    obtain ⟨v, R2⟩ : ∃ r, Hid ((fpOf n es).2 = r) := ⟨_, rfl⟩
    obtain ⟨M, HM⟩ : ∃ M, Hid (xs.length = M) := ⟨_, rfl⟩
    have hM : M ≤ 1048576 := by rw [← HM.out, ← R1.out]; exact lenFp
    have ct := fun W hW => toGraph_any n A c es W h (RdE.below (w' := W) hr hW)
    have cp := fun W g (hB : Blk W g 61 (cE es).toArray) => specFp_b n (some ⟨g, 0, none⟩) es.length es W h (blkE_rd hB) xs v R1 R2
    have ci := fun W g (hB : Blk W g 61 (cE es).toArray) => implFp_b n (some ⟨g, 0, none⟩) es.length es W h (blkE_rd hB) xs v R1 R2
    have ce := fun W g g' (hB : Blk W g 61 (cE es).toArray) (hB' : Blk W g' 61 (cE es).toArray) => eqGraph_any n n (some ⟨g, 0, none⟩) (some ⟨g', 0, none⟩) es.length es.length es es W h h (blkE_rd hB) (blkE_rd hB')
    simp only [decide_true, Bool.and_self] at ce
    have cq := fun W B B' cb cb' (h1 : RdI W B xs) (h2 : RdI W B' xs) => eqInt64S_same B B' cb cb' xs M W HM hM h1 h2
    have cm := fun W (g : Nat) (hg : g ≤ W.heap.size) (hB : FrE W g (some ⟨g, 0, none⟩) es) => markG_b n (some ⟨g, 0, none⟩) es.length es.length 1 g es W rfl (by omega) (by omega) hg hB
    have ck := fun W B cb (n0 : Nat) (hn : n0 ≤ W.heap.size) (hB : FrI W n0 B xs) => markI_b B M cb 1 n0 xs W HM.out (by omega) (by omega) hn hB
    have ch := fun W B cb (hB : RdI W B (iotaI 1 M)) => heldI_b B M cb 1 W (by omega) (by omega) hB
    obtain ⟨k1, N1⟩ : ∃ k : Int, Hid (((1 + 2 * es.length : Nat) : Int) = k) := ⟨_, rfl⟩
    obtain ⟨k2, N2⟩ : ∃ k : Int, Hid (((1 + M : Nat) : Int) = k) := ⟨_, rfl⟩
    have p1 : ¬ k1 < 0 := by have := N1.out; omega
    have p2 : ¬ k2 < 0 := by have := N2.out; omega
    have p3 : (k2 != k2) = false := by simp
    have p4 : (v != v) = false := by simp
    have hnat : ((1 : Nat) : Int) = 1 := rfl
    simp only [N1.out, hnat] at cm
    simp only [N2.out, hnat] at ck ch
    have h2 : ¬ ((1048576 : Int) - (es.length : Int) < 0) := by omega
    clear hr R1 R2
    generalize es.length = L at *
    have HM2 := hM
    go_enter Try.func8, Try.ntmps8
    go_wp2_with fail
    refine (cs _).mono ?_
    rintro e w1 ⟨rfl, hb1⟩
    simp only [World.size_alloc, World.size_setCell, World.size_drew] at hb1; have B1 : Below w.heap.size w w1 := by (repeat' (first | (with_reducible exact Below.refl _ _) | (with_reducible assumption) | (with_reducible refine Below.alloc ?_ ?_ _) | (with_reducible refine Below.drew ?_) | (with_reducible refine below_drewN ?_ _) | (with_reducible refine Below.setCell ?_ ?_ _) | (with_reducible refine Below.trans ?_ (Below.mono (by assumption) ?_)) | (first | omega | (simp only [World.size_alloc, World.size_setCell, World.size_drew]; omega) | (simp; omega) | (simp; done))))
    have K1 : Blk w1 w.heap.size 24 #[.int .i64 n, .slice A L c] := (Blk.new' _ rfl).below hb1 (by omega)
    have d10 := K1.cellAt 0 _ rfl; have d11 := K1.cellAt 1 _ rfl; have z1 := hb1.size; simp only [World.size_alloc, World.size_setCell, World.size_drew] at z1
    go_wp2_with fail
    refine (ct _ B1).mono ?_
    rintro e w2 ⟨g1, rfl, hg1, hE1, hb2⟩
    have B2 := B1.trans (hb2.mono B1.size); have K2 := K1.below hb2 K1.lt; have d20 := K2.cellAt 0 _ rfl; have d21 := K2.cellAt 1 _ rfl; have z2 := B2.size
    go_wp2_with fail
    refine (cp _ _ hE1).mono ?_
    rintro e w3 ⟨hq3, hb3⟩
    obtain ⟨A3, c3, rfl, hF3⟩ := hq3.open_ HM.out
    have B3 := B2.trans (hb3.mono B2.size); have K3 := K2.below hb3 K2.lt; have d30 := K3.cellAt 0 _ rfl; have d31 := K3.cellAt 1 _ rfl; have z3 := B3.size
    have W0 := Lib.hid hF3.rd
    have KB3 := Lib.hid K3
    clear hq3 hF3
    go_wp2_with fail
    refine (ct _ B3).mono ?_
    rintro e w4 ⟨g2, rfl, hg2, hE2, hb4⟩
    have B4 := B3.trans (hb4.mono B3.size); have K4 := K3.below hb4 K3.lt; have d40 := K4.cellAt 0 _ rfl; have d41 := K4.cellAt 1 _ rfl; have z4 := B4.size
    have X := (Blk.new w4 30 #[.int .i64 n, .slice (some ⟨g2, 0, none⟩) L L])
    go_wp2_with fail
    refine (ci _ _ (hE2.alloc _)).mono ?_
    rintro e w5 ⟨hq5, hb5⟩
    obtain ⟨A5, c5, rfl, hF5⟩ := hq5.open_ HM.out
    simp only [World.size_alloc, World.size_setCell, World.size_drew] at hb5
    (try simp only [World.size_alloc] at hF5)
    have D5 : Hid (Below w3.heap.size w3 w5) := (hb4.alloc hb4.size _).trans (hb5.mono (by have := hb4.size; omega))
    have X5 := X.below hb5 (by omega)
    have E5 := (hE2.alloc _).below hb5 (by have := hE2.lt; omega)
    have K5 := K3.below D5.out K3.lt
    have hg2' : g2 < w4.heap.size := hE2.lt
    have s34 : Hid (w3.heap.size ≤ w4.heap.size + 1) := by show _ ≤ _; have := hb4.size; omega
    have sg4 : Hid (g2 < w4.heap.size + 1) := Nat.lt_succ_of_lt hE2.lt
    have sg2 : Hid (w3.heap.size ≤ g2) := hg2
    have F5 := Lib.hid hF5
    have z3 : w.heap.size < w3.heap.size := K3.lt
    have s3 := B3.size
    clear d10 d11 d20 d21 d30 d31 d40 d41 hb1 hb2 hb3 hb4 hq5 hF5 K1 K2 K3 K4 B1 B2 B4 X hE1 hE2
    go_wp2_with fail
    refine (cq _ _ _ _ _ F5.out.rd (W0.out.below D5.out)).mono ?_
    rintro e w6 ⟨rfl, hb6⟩
    have D6 : Hid (Below w3.heap.size w3 w6) := D5.out.trans (hb6.mono D5.out.size)
    have X6 := X5.below hb6 X5.lt
    have E6 := E5.below hb6 E5.lt
    have K6 := K5.below hb6 K5.lt
    have F6 := Lib.hid (F5.out.below hb6)
    have x0 := X6.cellAt 0 _ rfl
    have x1 := X6.cellAt 1 _ rfl
    have d0 := K6.cellAt 0 _ rfl
    have d1 := K6.cellAt 1 _ rfl
    have z6 := X6.lt
    have z6' := K6.lt
    have zz := D6.out.size
    clear F5 D5 X5 E5 K5 hb5 hb6
    go_wp2
    refine wp_region_noPanic ?_
    refine wp_region_held_drew (S := (fun w' => w'.cell? ⟨w.heap.size, 0, none⟩ = some (.int .i64 n) ∧ w'.cell? ⟨w.heap.size, 1, none⟩ = some (.slice A L c) ∧ w'.cell? ⟨w4.heap.size, 0, none⟩ = some (.int .i64 n) ∧ w'.cell? ⟨w4.heap.size, 1, none⟩ = some (.slice (some ⟨g2, 0, none⟩) L L))) (by kernel_rfl) ?_ (fun hHeld => ?_)
    · (try dsimp only); (first | go_keep | (obtain ⟨hq, _⟩ := bcell ‹Below _ _ _›; (repeat' apply And.intro) <;> (rw [hq _ _ (by first | assumption | omega | (simp; done) | (simp; omega) | (simp; assumption))] <;> (first | assumption | (simp [*]; done)))))
    refine wpAnyH_take_d (i := 0) (d := some 41) (v := ?v1) rfl rfl (by kernel_rfl) (by kernel_rfl) (by kernel_rfl) (fun _ _ _ h => h) (Or.inl ⟨by kernel_rfl, ?y1⟩) (by assumption) ?_
    case y1 => (intro w' hSw; (try dsimp only at hSw); go_simp; try with_reducible rfl)
    try simp only [Act.put, List.setIfInBounds_toArray, List.set_cons_zero, List.set_cons_succ]
    refine wpAnyH_take_d (i := 1) (d := some 42) (v := ?v2) rfl rfl (by kernel_rfl) (by kernel_rfl) (by kernel_rfl) (fun _ _ _ h => h) (Or.inl ⟨by kernel_rfl, ?y2⟩) (by assumption) ?_
    case y2 => (intro w' hSw; (try dsimp only at hSw); go_simp; try with_reducible rfl)
    try simp only [Act.put, List.setIfInBounds_toArray, List.set_cons_zero, List.set_cons_succ]
    refine wpAnyH_ready (rs := [2]) (by kernel_rfl) (by simp) ?_
    refine AllReadyH.cons rfl (fun K hK => ?_) AllReadyH.nil
    go_simp
    refine (ct _ ((B3.trans (D6.out.mono s3)).drew)).mono ?_; rintro e w7 ⟨g3, rfl, hg3, hE3, hb7⟩; have z7 := hb7.size; (try simp only [World.size_alloc, World.size_setCell, World.size_drew] at z7)
    refine hK.out _ _ ?s3 (fun hHeld3 => ?_)
    case s3 => ((try dsimp only); (first | go_keep | (obtain ⟨hq, _⟩ := bcell ‹Below _ _ _›; (repeat' apply And.intro) <;> (rw [hq _ _ (by first | assumption | omega | (simp; done) | (simp; omega) | (simp; assumption))] <;> (first | assumption | (simp [*]; done))))))
    clear hK K hHeld
    have hHeld := hHeld3; clear hHeld3
    try simp only [Act.put, List.setIfInBounds_toArray, List.set_cons_zero, List.set_cons_succ]
    refine wpAnyH_ready (rs := [3]) (by kernel_rfl) (by simp) ?_
    refine AllReadyH.cons rfl (fun K hK => ?_) AllReadyH.nil
    go_simp
    refine (ce _ _ _ (E6.drew.below hb7 E6.lt) hE3).mono ?_; rintro e w8 ⟨rfl, hb8⟩; have z8 := hb8.size; (try simp only [World.size_alloc, World.size_setCell, World.size_drew] at z8)
    refine hK.out _ _ ?s4 (fun hHeld4 => ?_)
    case s4 => ((try dsimp only); (first | go_keep | (obtain ⟨hq, _⟩ := bcell ‹Below _ _ _›; (repeat' apply And.intro) <;> (rw [hq _ _ (by first | assumption | omega | (simp; done) | (simp; omega) | (simp; assumption))] <;> (first | assumption | (simp [*]; done))))))
    clear hK K hHeld
    have hHeld := hHeld4; clear hHeld4
    try simp only [Act.put, List.setIfInBounds_toArray, List.set_cons_zero, List.set_cons_succ]
    refine wpAnyH_take_d (i := 4) (d := some 45) (v := ?v5) rfl rfl (by kernel_rfl) (by kernel_rfl) (by kernel_rfl) (fun _ _ _ h => h) (Or.inl ⟨by kernel_rfl, ?y5⟩) (by assumption) ?_
    case y5 => (intro w' hSw; (try dsimp only at hSw); go_simp; try with_reducible rfl)
    try simp only [Act.put, List.setIfInBounds_toArray, List.set_cons_zero, List.set_cons_succ]
    refine wpAnyH_done (by kernel_rfl) ?_ _
    refine NoPanic.normal ?_
    have b8 : Below w6.heap.size w6 w8 := (Below.drew (Below.refl _ _)).trans (hb7.trans (hb8.mono z7))
    have D8 : Hid (Below w3.heap.size w3 w8) := D6.out.trans (b8.mono zz)
    have F8 := Lib.hid (F6.out.below b8)
    have E8 := E6.below b8 E6.lt
    have X8 := X6.below b8 z6
    have x80 := X8.cellAt 0 _ rfl
    have x81 := X8.cellAt 1 _ rfl
    have zz8 := D8.out.size
    have ze8 := E8.lt
    clear hHeld X6 E6 K6 F6 D6 x0 x1 d0 d1 hE3 hb7 hb8
    go_wp2_with fail
    refine (cm _ g2 (Nat.le_of_lt ze8) (blkE_fr E8)).mono ?_
    rintro e w9 ⟨rfl, ho9, hb9, _⟩
    have y8 := b8.size
    have y9 := hb9.size
    have y6 : w4.heap.size + 1 ≤ w6.heap.size := z6
    have D9 : Hid (Below w3.heap.size w3 w9) := D8.out.trans (hb9.mono sg2.out)
    have F9 := Lib.hid (F8.out.away ho9 sg4.out)
    clear ho9 hb9 F8 D8 X8 x80 x81 E8 b8
    go_wp2_with fail
    refine (cq _ _ _ _ _ F9.out.rd (W0.out.below D9.out)).mono ?_
    rintro e w10 ⟨rfl, hb10⟩
    have D10 : Hid (Below w3.heap.size w3 w10) := D9.out.trans (hb10.mono D9.out.size)
    have F10 := Lib.hid (F9.out.below hb10)
    have s10 := hb10.size
    have s9 := D9.out.size
    have hn10 : w4.heap.size + 1 ≤ w10.heap.size := by omega
    clear D9 F9 hb10
    go_wp2_with fail
    refine (ck _ _ _ _ hn10 F10.out).mono ?_
    rintro e w11 ⟨rfl, _, hb11, hF11⟩
    have D11 : Hid (Below w3.heap.size w3 w11) := D10.out.trans (hb11.mono s34.out)
    have F11 := Lib.hid hF11
    clear hb11 hF11 D10 F10
    go_wp2_with fail
    refine (ch _ _ _ F11.out.rd).mono ?_
    rintro e w12 ⟨rfl, hb12⟩
    have D12 : Hid (Below w3.heap.size w3 w12) := D11.out.trans (hb12.mono D11.out.size)
    have F12 := Lib.hid (F11.out.below hb12)
    have K12 := KB3.out.below D12.out z3
    have d120 := K12.cellAt 0 _ rfl
    have d121 := K12.cellAt 1 _ rfl
    clear hb12 D11 F11
    go_wp2_with fail
    refine (ct _ (B3.trans (D12.out.mono s3))).mono ?_
    rintro e w13 ⟨g4, rfl, hg4, hE4, hb13⟩
    have D13 : Hid (Below w3.heap.size w3 w13) := D12.out.trans (hb13.mono D12.out.size)
    have F13 := Lib.hid (F12.out.below hb13)
    clear hb13 D12 F12 K12 d120 d121
    go_wp2_with fail
    refine (ci _ _ hE4).mono ?_
    rintro e w14 ⟨hq14, hb14⟩
    obtain ⟨A14, c14, rfl, hF14⟩ := hq14.open_ HM.out
    have D14 : Hid (Below w3.heap.size w3 w14) := D13.out.trans (hb14.mono D13.out.size)
    have F14 := Lib.hid (F13.out.below hb14)
    have G14 := Lib.hid hF14
    clear hb14 D13 F13 hF14 hq14 hE4
    go_wp2_with fail
    refine (cq _ _ _ _ _ G14.out.rd (W0.out.below D14.out)).mono ?_
    rintro e w15 ⟨rfl, hb15⟩
    have D15 : Hid (Below w3.heap.size w3 w15) := D14.out.trans (hb15.mono D14.out.size)
    have F15 := Lib.hid (F14.out.below hb15)
    clear hb15 D14 F14 G14
    go_wp2_with fail
    refine (ch _ _ _ F15.out.rd).mono ?_
    rintro e w16 ⟨rfl, hb16⟩
    have D16 : Hid (Below w3.heap.size w3 w16) := D15.out.trans (hb16.mono D15.out.size)
    clear hb16 D15 F15
    go_wp2
    go_ret
    exact ⟨rfl, B3.trans (D16.out.mono s3)⟩
  · rw [if_neg h] at cs
    clear hr
    generalize es.length = L at *
    go_enter Try.func8, Try.ntmps8
    go_wp2_with fail
    refine (cs _).mono ?_
    rintro e w1 ⟨rfl, hb1⟩
    go_wp2
    go_ret
    exact ⟨rfl, by (repeat' (first | (with_reducible exact Below.refl _ _) | (with_reducible assumption) | (with_reducible refine Below.alloc ?_ ?_ _) | (with_reducible refine Below.drew ?_) | (with_reducible refine below_drewN ?_ _) | (with_reducible refine Below.setCell ?_ ?_ _) | (with_reducible refine Below.trans ?_ (Below.mono (by assumption) ?_)) | (first | omega | (simp only [World.size_alloc, World.size_setCell, World.size_drew]; omega) | (simp; omega) | (simp; done))))⟩
end Go.Proofs.Ytkpnplldnihalaa
