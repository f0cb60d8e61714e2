/- CycleTypeOf of impl and of the reference; the walk of the law FnExactCycleTypeOf. No statement of the program is proved here. -/
import Derived.Test.YtblidpodbpoaeaaCy2
import Derived.Test.YtblidpodbpoaeaaCy3
import Derived.Test.YtblidpodbpoaeaaCi1
namespace Go.Proofs.Ytblidpodbpoaeaa
open Go.RowKit
set_option linter.unusedSimpArgs false
set_option linter.unusedVariables false
set_option maxRecDepth 20000

theorem implCycleV_b (A : Option Addr) (c : Nat) (xs : List Int) (w : World) (hl : xs.length ≤ 1048576) (hr : RdI w A xs) (r : List Int) (v : Int) (R1 : Hid ((cycV xs).1 = r)) (R2 : Hid ((cycV xs).2 = v)) :
    Calls Try.prog 30 #[.slice A xs.length c] w fun e w' => RetI w' w.heap.size e r (.int .i64 v) ∧ Below w.heap.size w w' := by
  by_cases h : inB (xs.length : Int) 1 20 = true ∧ permB xs xs.length = true
  · have hv : cycV xs = (valD (sortD (cycO xs xs.length xs.length).2), 0) := by unfold cycV; rw [if_pos h]
    rw [hv] at R1 R2
    obtain rfl : valD (sortD (cycO xs xs.length xs.length).2) = r := R1.out
    obtain rfl : 0 = v := R2.out
    have hc := implCycle_yes A c xs w h.1 h.2 hl hr
    have he : _ = valD (sortD (cycO xs xs.length xs.length).2) := rfl
    rw [he] at hc
    exact hc
  · have hv : cycV xs = ([], 2) := by unfold cycV; rw [if_neg h]
    rw [hv] at R1 R2
    obtain rfl : [] = r := R1.out
    obtain rfl : 2 = v := R2.out
    exact implCycle_err A c xs w _ _ rfl rfl h hl hr
theorem specCycleV_b (A : Option Addr) (c : Nat) (xs : List Int) (w : World) (hl : xs.length ≤ 1048576) (hr : RdI w A xs) (r : List Int) (v : Int) (R1 : Hid ((cycV xs).1 = r)) (R2 : Hid ((cycV xs).2 = v)) :
    Calls Try.prog 29 #[.slice A xs.length c] w fun e w' => RetI w' w.heap.size e r (.int .i64 v) ∧ Below w.heap.size w w' := by
  by_cases h : inB (xs.length : Int) 1 20 = true ∧ permB xs xs.length = true
  · have hv : cycV xs = (valD (sortD (cycO xs xs.length xs.length).2), 0) := by unfold cycV; rw [if_pos h]
    rw [hv] at R1 R2
    obtain rfl : valD (sortD (cycO xs xs.length xs.length).2) = r := R1.out
    obtain rfl : 0 = v := R2.out
    have hc := specCycle_yes A c xs w h.1 h.2 hl hr
    have he : _ = valD (sortD (cycO xs xs.length xs.length).2) := (cycS_eq (by have := inB_true.1 h.1; omega) (permB_in h.2))
    rw [he] at hc
    exact hc
  · have hv : cycV xs = ([], 2) := by unfold cycV; rw [if_neg h]
    rw [hv] at R1 R2
    obtain rfl : [] = r := R1.out
    obtain rfl : 2 = v := R2.out
    exact specCycle_err A c xs w _ _ rfl rfl h hl hr

set_option maxHeartbeats 8000000 in
theorem lawCycle_any (A : Option Addr) (c : Nat) (xs : List Int) (w : World) (hl : xs.length ≤ 9223372036854775807) (hr : RdI w A xs) :
    Calls Try.prog 9 #[.slice A xs.length c] w fun e w' => e = .returned (.bool true) ∧ Below w.heap.size w w' := by
  by_cases h : xs.length ≤ 1048576
  · obtain ⟨r, R1⟩ : ∃ r, Hid ((cycV xs).1 = r) := ⟨_, rfl⟩
    obtain ⟨v, R2⟩ : ∃ r, Hid ((cycV xs).2 = r) := ⟨_, rfl⟩
    obtain ⟨M, HM⟩ : ∃ M, Hid (r.length = M) := ⟨_, rfl⟩
    have hM : M ≤ 1048576 := by rw [← HM.out, ← R1.out]; have := cycV_len xs; omega
    have ct := fun W hW => toInt64S_any A c xs W h (RdI.below (w' := W) hr hW)
    have cp := fun W g (hB : Blk W g 2 (cI xs).toArray) => specCycleV_b (some ⟨g, 0, none⟩) xs.length xs W h (blkI_rd hB) r v R1 R2
    have ci := fun W g (hB : Blk W g 2 (cI xs).toArray) => implCycleV_b (some ⟨g, 0, none⟩) xs.length xs W h (blkI_rd hB) r v R1 R2
    have ce := fun W g g' (hB : Blk W g 2 (cI xs).toArray) (hB' : Blk W g' 2 (cI xs).toArray) => eqInt64S_same (some ⟨g, 0, none⟩) (some ⟨g', 0, none⟩) xs.length xs.length xs xs.length W (Lib.hid rfl) h (blkI_rd hB) (blkI_rd hB')
    have cq := fun W B B' cb cb' (h1 : RdI W B r) (h2 : RdI W B' r) => eqInt64S_same B B' cb cb' r M W HM hM h1 h2
    have cm := fun W (g : Nat) (hg : g ≤ W.heap.size) (hB : FrI W g (some ⟨g, 0, none⟩) xs) => markI_b (some ⟨g, 0, none⟩) xs.length xs.length 1 g xs W rfl (by omega) (by omega) hg hB
    have ck := fun W B cb (n0 : Nat) (hn : n0 ≤ W.heap.size) (hB : FrI W n0 B r) => markI_b B M cb 1 n0 r W HM.out (by omega) (by omega) hn hB
    have ch := fun W B cb (hB : RdI W B (iotaI 1 M)) => heldI_b B M cb 1 W (by omega) (by omega) hB
    obtain ⟨k1, N1⟩ : ∃ k : Int, Hid (((1 + xs.length : Nat) : Int) = k) := ⟨_, rfl⟩
    obtain ⟨k2, N2⟩ : ∃ k : Int, Hid (((1 + M : Nat) : Int) = k) := ⟨_, rfl⟩
    have p1 : ¬ k1 < 0 := by have := N1.out; omega
    have p2 : ¬ k2 < 0 := by have := N2.out; omega
    have p3 : (k2 != k2) = false := by simp
    have p4 : (v != v) = false := by simp
    have hnat : ((1 : Nat) : Int) = 1 := rfl
    simp only [N1.out, hnat] at cm
    simp only [N2.out, hnat] at ck ch
    have h2 : ¬ ((xs.length : Int) > 1048576) := by omega
    clear hr R1 R2
    generalize xs.length = L at *
    go_enter Try.func9, Try.ntmps9
    go_wp2_with fail
    refine (ct _ (Below.refl _ _)).mono ?_
    rintro e w1 ⟨rfl, hE1, hb1⟩
    go_wp2_with fail
    refine (cp _ _ hE1).mono ?_
    rintro e w3 ⟨hq3, hb3⟩
    obtain ⟨A3, c3, rfl, hF3⟩ := hq3.open_ HM.out
    have W0 := Lib.hid hF3.rd
    have B3 : Hid (Below w.heap.size w w3) := hb1.trans (hb3.mono hb1.size)
    have s3 := B3.out.size
    clear hq3 hF3 hE1 hb1 hb3
    go_wp2_with fail
    refine (ct _ B3.out).mono ?_
    rintro e w4 ⟨rfl, hE4, hb4⟩
    have D4 := Lib.hid hb4
    have E4 := Lib.hid hE4
    have sE4 : w3.heap.size < w4.heap.size := hE4.lt
    clear hE4 hb4
    go_wp2_with fail
    refine (ci _ _ E4.out).mono ?_
    rintro e w5 ⟨hq5, hb5⟩
    obtain ⟨A5, c5, rfl, hF5⟩ := hq5.open_ HM.out
    have F5 := Lib.hid hF5
    have D5 : Hid (Below w3.heap.size w3 w5) := D4.out.trans (hb5.mono (by omega))
    have E5 := Lib.hid (E4.out.below hb5 sE4)
    have s5 := hb5.size
    clear hq5 hF5 hb5 E4
    go_wp2_with fail
    refine (cq _ _ _ _ _ F5.out.rd (W0.out.below D5.out)).mono ?_
    rintro e w6 ⟨rfl, hb6⟩
    have D6 : Hid (Below w3.heap.size w3 w6) := D5.out.trans (hb6.mono D5.out.size)
    have F6 := Lib.hid (F5.out.below hb6)
    have E6 := Lib.hid (E5.out.below hb6 E5.out.lt)
    have s6 := hb6.size
    clear hb6 F5 E5 D5
    go_wp2_with fail
    refine (ct _ (B3.out.trans (D6.out.mono s3))).mono ?_
    rintro e w7 ⟨rfl, hE7, hb7⟩
    have D7 : Hid (Below w3.heap.size w3 w7) := D6.out.trans (hb7.mono D6.out.size)
    have F7 := Lib.hid (F6.out.below hb7)
    have E7 := Lib.hid (E6.out.below hb7 E6.out.lt)
    have X7 := Lib.hid hE7
    have s7 := hb7.size
    clear hE7 hb7 F6 E6 D6
    go_wp2_with fail
    refine (ce _ _ _ E7.out X7.out).mono ?_
    rintro e w8 ⟨rfl, hb8⟩
    have D8 : Hid (Below w3.heap.size w3 w8) := D7.out.trans (hb8.mono D7.out.size)
    have F8 := Lib.hid (F7.out.below hb8)
    have E8 := Lib.hid (E7.out.below hb8 E7.out.lt)
    have s8 := hb8.size
    clear hb8 F7 E7 D7 X7
    go_wp2_with fail
    refine (cm _ w3.heap.size (Nat.le_of_lt E8.out.lt) (blkI_fr E8.out)).mono ?_
    rintro e w9 ⟨rfl, ho9, hb9, _⟩
    have D9 : Hid (Below w3.heap.size w3 w9) := D8.out.trans hb9
    have F9 := Lib.hid (F8.out.away ho9 sE4)
    have s9 : w4.heap.size ≤ w9.heap.size := by have := hb9.size; have := E8.out.lt; have h8 := F8; omega
    clear ho9 hb9 F8 D8 E8
    go_wp2_with fail
    refine (cq _ _ _ _ _ F9.out.rd (W0.out.below D9.out)).mono ?_
    rintro e w10 ⟨rfl, hb10⟩
    have D10 : Hid (Below w3.heap.size w3 w10) := D9.out.trans (hb10.mono D9.out.size)
    have F10 := Lib.hid (F9.out.below hb10)
    have hn10 : w4.heap.size ≤ w10.heap.size := by have := hb10.size; omega
    clear D9 F9 hb10
    go_wp2_with fail
    refine (ck _ _ _ _ hn10 F10.out).mono ?_
    rintro e w11 ⟨rfl, _, hb11, hF11⟩
    have D11 : Hid (Below w3.heap.size w3 w11) := D10.out.trans (hb11.mono (by omega))
    have F11 := Lib.hid hF11
    clear hb11 hF11 D10 F10
    go_wp2_with fail
    refine (ch _ _ _ F11.out.rd).mono ?_
    rintro e w12 ⟨rfl, hb12⟩
    have D12 : Hid (Below w3.heap.size w3 w12) := D11.out.trans (hb12.mono D11.out.size)
    have F12 := Lib.hid (F11.out.below hb12)
    clear hb12 D11 F11
    go_wp2_with fail
    refine (ct _ (B3.out.trans (D12.out.mono s3))).mono ?_
    rintro e w13 ⟨rfl, hE13, hb13⟩
    have D13 : Hid (Below w3.heap.size w3 w13) := D12.out.trans (hb13.mono D12.out.size)
    have F13 := Lib.hid (F12.out.below hb13)
    have E13 := Lib.hid hE13
    clear hb13 D12 F12 hE13
    go_wp2_with fail
    refine (ci _ _ E13.out).mono ?_
    rintro e w14 ⟨hq14, hb14⟩
    obtain ⟨A14, c14, rfl, hF14⟩ := hq14.open_ HM.out
    have D14 : Hid (Below w3.heap.size w3 w14) := D13.out.trans (hb14.mono D13.out.size)
    have F14 := Lib.hid (F13.out.below hb14)
    have G14 := Lib.hid hF14
    clear hb14 D13 F13 hF14 hq14 E13
    go_wp2_with fail
    refine (cq _ _ _ _ _ G14.out.rd (W0.out.below D14.out)).mono ?_
    rintro e w15 ⟨rfl, hb15⟩
    have D15 : Hid (Below w3.heap.size w3 w15) := D14.out.trans (hb15.mono D14.out.size)
    have F15 := Lib.hid (F14.out.below hb15)
    clear hb15 D14 F14 G14
    go_wp2_with fail
    refine (ch _ _ _ F15.out.rd).mono ?_
    rintro e w16 ⟨rfl, hb16⟩
    have D16 : Hid (Below w3.heap.size w3 w16) := D15.out.trans (hb16.mono D15.out.size)
    clear hb16 D15 F15
    go_wp2
    go_ret
    exact ⟨rfl, B3.out.trans (D16.out.mono s3)⟩
  · have h2 : (xs.length : Int) > 1048576 := by omega
    clear hr
    generalize xs.length = L at *
    go_enter Try.func9, Try.ntmps9
    go_wp2
    go_ret
    exact ⟨rfl, Below.refl _ _⟩
end Go.Proofs.Ytblidpodbpoaeaa
