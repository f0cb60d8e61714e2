/- The walk of the law FnExactFlowerGraph. -/
import Derived.Test.YtblidpodbpoaeaaFl4
import Derived.Test.YtblidpodbpoaeaaMk2
import Derived.Test.YtblidpodbpoaeaaMk3
import Derived.Test.YtblidpodbpoaeaaGlue3
namespace Go.Proofs.Ytblidpodbpoaeaa
open Go.RowKit
set_option linter.unusedSimpArgs false
set_option linter.unusedVariables false
set_option maxRecDepth 20000

/-- Marks are laid into a graph that was returned: what was made behind it stays. -/
theorem markG_off (m : Int) (A : Option Addr) (n c k n0 : Nat) (es : List (Int × Int)) (w2 w : World) (hn : es.length = n) (hl : n ≤ 100000000) (hk : k ≤ 1000000000000) (hn0 : n0 ≤ w2.heap.size) (hr : FrE w2 n0 A es) (hb : Below w2.heap.size w2 w) :
    Calls Try.prog 13 #[.agg #[.int .i64 m, .slice A n c], .int .i64 k] w fun e w' => e = .returned (.int .i64 ((k + 2 * n : Nat) : Int)) ∧ (∀ g, w2.heap.size ≤ g → g < w.heap.size → w'.heap[g]? = w.heap[g]?) ∧ Below n0 w w' ∧ FrE w' n0 A (iotaE k n) := by
  rcases hr with h0 | ⟨b, off, e1, h1, h2, hf, hc⟩
  · subst h0
    obtain rfl : n = 0 := hn.symm
    refine (markG_b m A 0 c k w.heap.size [] w rfl hl hk (Nat.le_refl _) (.inl rfl)).mono ?_
    rintro e w' ⟨he, ho, hb2, hF⟩
    exact ⟨he, fun g _ hg => hb2.block g hg, hb2.mono (Nat.le_trans hn0 hb.size), .inl rfl⟩
  · have hr2 : FrE w n0 A es := FrE.below (.inr ⟨b, off, e1, h1, h2, hf, hc⟩) hb
    refine (markG_b m A n c k n0 es w hn hl hk (Nat.le_trans hn0 hb.size) hr2).mono ?_
    rintro e w' ⟨he, ho, hb2, hF⟩
    refine ⟨he, fun g hg hg2 => ho.block g hg2 fun o e2 => ?_, hb2, hF⟩
    rw [e1] at e2
    injection e2 with e2
    injection e2 with e2
    omega

set_option maxHeartbeats 8000000 in
theorem lawFl_any (k : Int) (w : World) :
    Calls Try.prog 3 #[.int .i64 k] w fun e w' => e = .returned (.bool true) ∧ Below w.heap.size w w' := by
  have cp := fun W => specFlower_b k W
  have ci := fun W => implFlower_b k W
  have hM := flowL_len k
  obtain ⟨N, HN⟩ : ∃ N, Hid (flowN k = N) := ⟨_, rfl⟩
  obtain ⟨es, He⟩ : ∃ N, Hid (flowL k = N) := ⟨_, rfl⟩
  obtain ⟨v, Hv⟩ : ∃ N, Hid (flowC k = N) := ⟨_, rfl⟩
  simp only [HN.out, He.out, Hv.out] at cp ci
  rw [He.out] at hM
  clear HN He Hv
  obtain ⟨M, HM⟩ : ∃ M, Hid (es.length = M) := ⟨_, rfl⟩
  rw [HM.out] at hM
  have ce := fun W B B' cb cb' (h1 : RdE W B es) (h2 : RdE W B' es) => eqGraph_any N N B B' cb cb' es es W (by rw [HM.out]; omega) (by rw [HM.out]; omega) h1 h2
  simp only [decide_true, Bool.and_self, HM.out] at ce
  have ch := fun W B cb (hB : RdE W B (iotaE 1 M)) => heldG_b N B M cb 1 W (by omega) (by omega) hB
  obtain ⟨k1, K1⟩ : ∃ k : Int, Hid (((1 + 2 * M : Nat) : Int) = k) := ⟨_, rfl⟩
  have p1 : ¬ k1 < 0 := by have := K1.out; omega
  have p3 : (k1 != k1) = false := by simp
  have p4 : (v != v) = false := by simp
  have hnat : ((1 : Nat) : Int) = 1 := rfl
  simp only [K1.out, hnat] at ch
  go_enter Try.func3, Try.ntmps3
  go_wp2_with fail
  refine (cp _).mono ?_
  rintro e w1 ⟨hq1, hb1⟩
  obtain ⟨A1, c1, rfl, hF1⟩ := hq1.open_ HM.out
  obtain ⟨u1, hu1⟩ : ∃ u, u = w1.alloc (.cells #[.int .i64 N, .slice A1 M c1] 24) := ⟨_, rfl⟩
  have zu : u1.heap.size = w1.heap.size + 1 := by rw [hu1]; simp
  have sw : w.heap.size ≤ w1.heap.size := hb1.size
  have W1 : Hid (RdE u1 A1 es) := by rw [hu1]; exact hF1.rd.below (Below.alloc (Below.refl _ _) (Nat.le_refl _) _)
  have X1 : Hid (Blk u1 w1.heap.size 24 #[.int .i64 N, .slice A1 M c1]) := by rw [hu1]; exact Blk.new w1 _ _
  have Hu : Hid (Below w.heap.size w u1) := by rw [hu1]; show Below _ _ _; (repeat' (first | (with_reducible exact Below.refl _ _) | (with_reducible assumption) | (with_reducible refine Below.alloc ?_ ?_ _) | (with_reducible refine Below.drew ?_) | (with_reducible refine below_drewN ?_ _) | (with_reducible refine Below.setCell ?_ ?_ _) | (with_reducible refine Below.trans ?_ (Below.mono (by assumption) ?_)) | (first | omega | (simp only [World.size_alloc, World.size_setCell, World.size_drew]; omega) | (simp; omega) | (simp; done))))
  clear hq1 hF1 hb1 cp
  go_wp2_with fail
  rw [← hu1]
  refine (ci _).mono ?_
  rintro e w2 ⟨hq2, hb2⟩
  obtain ⟨A2, c2, rfl, hF2⟩ := hq2.open_ HM.out
  obtain ⟨u2, hu2⟩ : ∃ u, u = w2.alloc (.cells #[.int .i64 N, .slice A2 M c2] 24) := ⟨_, rfl⟩
  have zu2 : u2.heap.size = w2.heap.size + 1 := by rw [hu2]; simp
  have X2 : Hid (Blk u2 w2.heap.size 24 #[.int .i64 N, .slice A2 M c2]) := by rw [hu2]; exact Blk.new w2 _ _
  have D2 : Hid (Below u1.heap.size u1 u2) := by rw [hu2]; exact hb2.alloc hb2.size _
  have F2 := Lib.hid hF2
  have B2 : Hid (Below w2.heap.size w2 u2) := by rw [hu2]; exact Below.alloc (Below.refl _ _) (Nat.le_refl _) _
  have s2 : u1.heap.size ≤ w2.heap.size := hb2.size
  clear hq2 hF2 hb2 hu1
  have x10 := (X1.out.below D2.out X1.out.lt).cellAt 0 _ rfl
  have x11 := (X1.out.below D2.out X1.out.lt).cellAt 1 _ rfl
  have x20 := X2.out.cellAt 0 _ rfl
  have x21 := X2.out.cellAt 1 _ rfl
  rw [hu2] at x10 x11 x20 x21
  go_wp2_with fail
  rw [← hu2]
  refine (ce _ _ _ _ _ (F2.out.rd.below B2.out) (W1.out.below D2.out)).mono ?_
  rintro e w3 ⟨rfl, hb3⟩
  have D3 : Hid (Below u1.heap.size u1 w3) := D2.out.trans (hb3.mono D2.out.size)
  have B3 : Hid (Below w2.heap.size w2 w3) := B2.out.trans (hb3.mono (by omega))
  have X3 := X2.out.below hb3 X2.out.lt
  have x30 := X3.cellAt 0 _ rfl
  have x31 := X3.cellAt 1 _ rfl
  have z3 := hb3.size
  clear hb3 x10 x11 x20 x21 hu2
  go_wp2_with fail
  have cm := markG_off N A2 M c2 1 u1.heap.size es w2 w3 HM.out (by omega) (by omega) s2 F2.out B3.out
  simp only [K1.out, hnat] at cm
  refine cm.mono ?_
  rintro e w4 ⟨rfl, ho4, hb4, hF4⟩
  have X4 : Hid (Blk w4 w2.heap.size 24 #[.int .i64 N, .slice A2 M c2]) := (ho4 _ (Nat.le_refl _) X3.lt).trans X3
  have D4 : Hid (Below u1.heap.size u1 w4) := D3.out.trans hb4
  have F4 := Lib.hid hF4
  have x40 := X4.out.cellAt 0 _ rfl
  have x41 := X4.out.cellAt 1 _ rfl
  clear cm ho4 hb4 hF4 X3 x30 x31
  go_wp2_with fail
  refine (ch _ _ _ F4.out.rd).mono ?_
  rintro e w5 ⟨rfl, hb5⟩
  have D5 : Hid (Below u1.heap.size u1 w5) := D4.out.trans (hb5.mono D4.out.size)
  have F5 := Lib.hid (F4.out.below hb5)
  have X5 : Hid (Blk w5 w2.heap.size 24 #[.int .i64 N, .slice A2 M c2]) := X4.out.below hb5 X4.out.lt
  clear hb5 x40 x41
  go_wp2_with fail
  refine (ci _).mono ?_
  rintro e w6 ⟨hq6, hb6⟩
  obtain ⟨A6, c6, rfl, hF6⟩ := hq6.open_ HM.out
  have D6 : Hid (Below u1.heap.size u1 w6) := D5.out.trans (hb6.mono D5.out.size)
  have F6 := Lib.hid (F5.out.below hb6)
  have X6 : Hid (Blk w6 w2.heap.size 24 #[.int .i64 N, .slice A2 M c2]) := X5.out.below hb6 X5.out.lt
  obtain ⟨u6, hu6⟩ : ∃ u, u = w6.alloc (.cells #[.int .i64 N, .slice A6 M c6] 24) := ⟨_, rfl⟩
  have B6 : Hid (Below w6.heap.size w6 u6) := by rw [hu6]; exact Below.alloc (Below.refl _ _) (Nat.le_refl _) _
  have R6 : Hid (RdE u6 A6 es) := hF6.rd.below B6.out
  have Y6 : Hid (Blk u6 w6.heap.size 24 #[.int .i64 N, .slice A6 M c6]) := by rw [hu6]; exact Blk.new w6 _ _
  have D7 : Hid (Below u1.heap.size u1 u6) := D6.out.trans (B6.out.mono D6.out.size)
  have F7 := Lib.hid (F6.out.below B6.out)
  have X7 : Hid (Blk u6 w2.heap.size 24 #[.int .i64 N, .slice A2 M c2]) := X6.out.below B6.out X6.out.lt
  clear hq6 hF6 hb6
  have x10 := (X1.out.below D7.out X1.out.lt).cellAt 0 _ rfl
  have x11 := (X1.out.below D7.out X1.out.lt).cellAt 1 _ rfl
  have x20 := Y6.out.cellAt 0 _ rfl
  have x21 := Y6.out.cellAt 1 _ rfl
  rw [hu6] at x10 x11 x20 x21
  go_wp2_with fail
  rw [← hu6]
  refine (ce _ _ _ _ _ R6.out (W1.out.below D7.out)).mono ?_
  rintro e w8 ⟨rfl, hb8⟩
  have D8 : Hid (Below u1.heap.size u1 w8) := D7.out.trans (hb8.mono D7.out.size)
  have F8 := Lib.hid (F7.out.below hb8)
  have X8 : Hid (Blk w8 w2.heap.size 24 #[.int .i64 N, .slice A2 M c2]) := X7.out.below hb8 X7.out.lt
  have x80 := X8.out.cellAt 0 _ rfl
  have x81 := X8.out.cellAt 1 _ rfl
  clear hb8 x10 x11 x20 x21 hu6
  go_wp2_with fail
  refine (ch _ _ _ F8.out.rd).mono ?_
  rintro e w9 ⟨rfl, hb9⟩
  have D9 : Hid (Below u1.heap.size u1 w9) := D8.out.trans (hb9.mono D8.out.size)
  clear hb9 x80 x81
  go_wp2
  go_ret
  exact ⟨rfl, Hu.out.trans (D9.out.mono Hu.out.size)⟩
end Go.Proofs.Ytblidpodbpoaeaa
