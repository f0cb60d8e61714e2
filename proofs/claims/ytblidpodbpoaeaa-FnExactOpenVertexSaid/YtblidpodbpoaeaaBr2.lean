/- The reference's BridgeEdges. No statement of the program is proved here. -/
/- impl.BridgeEdges. No statement of the program is proved here. -/
/- impl.BridgeEdges. No statement of the program is proved here. -/
/- BridgeEdges of impl and of the reference, at every input. No statement of the program is proved here. -/
import Derived.Test.YtblidpodbpoaeaaBr1
import Derived.Test.YtblidpodbpoaeaaNe1
import Derived.Test.YtblidpodbpoaeaaCd
namespace Go.Proofs.Ytblidpodbpoaeaa
open Go.RowKit
set_option linter.unusedSimpArgs false
set_option linter.unusedVariables false
set_option maxRecDepth 20000

/-- The cells of two edges. -/
theorem blk2_rd {w : World} {t : TypeId} {a b : Int × Int} {n : Nat} (hn : n = w.heap.size) : RdE (w.alloc (.cells #[.int .i64 a.1, .int .i64 a.2, .int .i64 b.1, .int .i64 b.2] t)) (some ⟨n, 0, none⟩) [a, b] :=
  blkE_rd (t := t) (es := [a, b]) (Blk.new' _ hn)
theorem blk1_rd {w : World} {t : TypeId} {a : Int × Int} {n : Nat} (hn : n = w.heap.size) : RdE (w.alloc (.cells #[.int .i64 a.1, .int .i64 a.2] t)) (some ⟨n, 0, none⟩) [a] :=
  blkE_rd (t := t) (es := [a]) (Blk.new' _ hn)

set_option maxHeartbeats 2000000 in
/-- The errors. -/
theorem specBridge_err (n : Int) (A : Option Addr) (c : Nat) (es : List (Int × Int)) (a b : Int) (w : World) (hl : es.length ≤ 1048576) (hr : RdE w A es) (v : Int) (qg qv : Bool) (hq : Hid (isGraphB n es = qg)) (hv : Hid ([a, b].all (fun v => inB v 0 ((es.length : Int) - 1)) = qv))
    (h : (gcode qg qv = v ∧ v ≠ 0) ∨ (qg = true ∧ qv = true ∧ a = b ∧ v = 5) ∨ (qg = true ∧ qv = true ∧ a ≠ b ∧ (2 ≤ n ∧ n ≤ 20) ∧ n + 2 > 20 ∧ v = 3)) :
    Calls Try.prog 16 #[.agg #[.int .i64 n, .slice A es.length c], .int .i64 a, .int .i64 b] w fun e w' => RetG w' w.heap.size e 0 [] v ∧ Below w.heap.size w w' := by
  have c1 := fun W L (hW : Below w.heap.size w W) (hL : RdI W L [a, b]) => l06Edges_b n A c es L 2 [a, b] W qg qv hq hv hl (by simp) (hr.below hW) hL
  clear hr hq hv
  generalize es.length = m at *
  rcases h with ⟨hc, hv0⟩ | ⟨rfl, rfl, hne, rfl⟩ | ⟨rfl, rfl, hne, ⟨hn0, hn⟩, hn2, rfl⟩
  · have g1 : (v != 0) = true := by simpa using hv0
    rw [hc] at c1
    go_enter Try.func16, Try.ntmps16
    go_wp2_with fail
    refine (c1 (((w.alloc (.cells #[.int .i64 n, .slice A m c] 24)).alloc (.cells #[.int .i64 0, .slice none 0 0] 24)).alloc (.cells #[.int .i64 a, .int .i64 b] 2)) (some ⟨w.heap.size + 2, 0, none⟩) (by (repeat' (first | (with_reducible exact Below.refl _ _) | (with_reducible assumption) | (with_reducible refine Below.alloc ?_ ?_ _) | (with_reducible refine Below.drew ?_) | (with_reducible refine below_drewN ?_ _) | (with_reducible refine Below.setCell ?_ ?_ _) | (with_reducible refine Below.trans ?_ (Below.mono (by assumption) ?_)) | (first | omega | (simp only [World.size_alloc, World.size_setCell, World.size_drew]; omega) | (simp; omega) | (simp; done))))) (blkI_rd (t := 2) (xs := [a, b]) (Blk.new' _ (by simp)))).mono ?_
    rintro e w1 ⟨rfl, hb1⟩
    have HZ := Lib.hid (((Blk.new' (n := w.heap.size + 1) (t := 24) (cs := #[.int .i64 0, .slice none 0 0]) _ (by simp)).alloc _).below hb1 (by simp) : Blk w1 (w.heap.size + 1) 24 #[.int .i64 0, .slice none 0 0])
    have hK : Blk w1 w.heap.size 24 #[.int .i64 n, .slice A m c] := (((Blk.new w _ _).alloc _).alloc _).below hb1 (by simp; omega)
    have k0 := hK.cellAt 0 _ rfl
    have x0 := HZ.out.cellAt 0 _ rfl
    have x1 : (w1.setCell ⟨w.heap.size + 1, 0, none⟩ (.int .i64 0)).cell? ⟨w.heap.size + 1, 1, none⟩ = some (.slice none 0 0) := (sc_other (by simp)).trans (HZ.out.cellAt 1 _ rfl)
    have f0 := HZ.out.frozen 0
    have f1 := HZ.out.frozen 1
    have Hb1 : Hid (Below w.heap.size w w1) := by show Below _ _ _; (repeat' (first | (with_reducible exact Below.refl _ _) | (with_reducible assumption) | (with_reducible refine Below.alloc ?_ ?_ _) | (with_reducible refine Below.drew ?_) | (with_reducible refine below_drewN ?_ _) | (with_reducible refine Below.setCell ?_ ?_ _) | (with_reducible refine Below.trans ?_ (Below.mono (by assumption) ?_)) | (first | omega | (simp only [World.size_alloc, World.size_setCell, World.size_drew]; omega) | (simp; omega) | (simp; done))))
    clear hb1 hK
    go_wp2
    refine ret_cell_tmp Try.results16 Try.underlying24 rfl (by kernel_rfl) rfl ((HZ.out.set_ 0 (.int .i64 0)).set_ 1 (.slice none 0 0)) rfl rfl ⟨⟨none, 0, rfl, FrE.nil⟩, (Hb1.out.setCell (by show w.heap.size ≤ w.heap.size + 1; omega) _).setCell (by show w.heap.size ≤ w.heap.size + 1; omega) _⟩
  · have g1 : (a == b) = true := by simpa using hne
    clear hne
    go_enter Try.func16, Try.ntmps16
    go_wp2_with fail
    refine (c1 (((w.alloc (.cells #[.int .i64 n, .slice A m c] 24)).alloc (.cells #[.int .i64 0, .slice none 0 0] 24)).alloc (.cells #[.int .i64 a, .int .i64 b] 2)) (some ⟨w.heap.size + 2, 0, none⟩) (by (repeat' (first | (with_reducible exact Below.refl _ _) | (with_reducible assumption) | (with_reducible refine Below.alloc ?_ ?_ _) | (with_reducible refine Below.drew ?_) | (with_reducible refine below_drewN ?_ _) | (with_reducible refine Below.setCell ?_ ?_ _) | (with_reducible refine Below.trans ?_ (Below.mono (by assumption) ?_)) | (first | omega | (simp only [World.size_alloc, World.size_setCell, World.size_drew]; omega) | (simp; omega) | (simp; done))))) (blkI_rd (t := 2) (xs := [a, b]) (Blk.new' _ (by simp)))).mono ?_
    rintro e w1 ⟨rfl, hb1⟩
    have HZ := Lib.hid (((Blk.new' (n := w.heap.size + 1) (t := 24) (cs := #[.int .i64 0, .slice none 0 0]) _ (by simp)).alloc _).below hb1 (by simp) : Blk w1 (w.heap.size + 1) 24 #[.int .i64 0, .slice none 0 0])
    have hK : Blk w1 w.heap.size 24 #[.int .i64 n, .slice A m c] := (((Blk.new w _ _).alloc _).alloc _).below hb1 (by simp; omega)
    have k0 := hK.cellAt 0 _ rfl
    have x0 := HZ.out.cellAt 0 _ rfl
    have x1 : (w1.setCell ⟨w.heap.size + 1, 0, none⟩ (.int .i64 0)).cell? ⟨w.heap.size + 1, 1, none⟩ = some (.slice none 0 0) := (sc_other (by simp)).trans (HZ.out.cellAt 1 _ rfl)
    have f0 := HZ.out.frozen 0
    have f1 := HZ.out.frozen 1
    have Hb1 : Hid (Below w.heap.size w w1) := by show Below _ _ _; (repeat' (first | (with_reducible exact Below.refl _ _) | (with_reducible assumption) | (with_reducible refine Below.alloc ?_ ?_ _) | (with_reducible refine Below.drew ?_) | (with_reducible refine below_drewN ?_ _) | (with_reducible refine Below.setCell ?_ ?_ _) | (with_reducible refine Below.trans ?_ (Below.mono (by assumption) ?_)) | (first | omega | (simp only [World.size_alloc, World.size_setCell, World.size_drew]; omega) | (simp; omega) | (simp; done))))
    clear hb1 hK
    go_wp2
    refine ret_cell_tmp Try.results16 Try.underlying24 rfl (by kernel_rfl) rfl ((HZ.out.set_ 0 (.int .i64 0)).set_ 1 (.slice none 0 0)) rfl rfl ⟨⟨none, 0, rfl, FrE.nil⟩, (Hb1.out.setCell (by show w.heap.size ≤ w.heap.size + 1; omega) _).setCell (by show w.heap.size ≤ w.heap.size + 1; omega) _⟩
  · have g1 : (a == b) = false := by simpa using hne
    clear hne
    have g2 : decide (n + 2 > 20) = true := by simpa using hn2
    have p2 : wrap64 (n + 2) = n + 2 := wrap64_small (by omega) (by omega)
    go_enter Try.func16, Try.ntmps16
    go_wp2_with fail
    refine (c1 (((w.alloc (.cells #[.int .i64 n, .slice A m c] 24)).alloc (.cells #[.int .i64 0, .slice none 0 0] 24)).alloc (.cells #[.int .i64 a, .int .i64 b] 2)) (some ⟨w.heap.size + 2, 0, none⟩) (by (repeat' (first | (with_reducible exact Below.refl _ _) | (with_reducible assumption) | (with_reducible refine Below.alloc ?_ ?_ _) | (with_reducible refine Below.drew ?_) | (with_reducible refine below_drewN ?_ _) | (with_reducible refine Below.setCell ?_ ?_ _) | (with_reducible refine Below.trans ?_ (Below.mono (by assumption) ?_)) | (first | omega | (simp only [World.size_alloc, World.size_setCell, World.size_drew]; omega) | (simp; omega) | (simp; done))))) (blkI_rd (t := 2) (xs := [a, b]) (Blk.new' _ (by simp)))).mono ?_
    rintro e w1 ⟨rfl, hb1⟩
    have HZ := Lib.hid (((Blk.new' (n := w.heap.size + 1) (t := 24) (cs := #[.int .i64 0, .slice none 0 0]) _ (by simp)).alloc _).below hb1 (by simp) : Blk w1 (w.heap.size + 1) 24 #[.int .i64 0, .slice none 0 0])
    have hK : Blk w1 w.heap.size 24 #[.int .i64 n, .slice A m c] := (((Blk.new w _ _).alloc _).alloc _).below hb1 (by simp; omega)
    have k0 := hK.cellAt 0 _ rfl
    have x0 := HZ.out.cellAt 0 _ rfl
    have x1 : (w1.setCell ⟨w.heap.size + 1, 0, none⟩ (.int .i64 0)).cell? ⟨w.heap.size + 1, 1, none⟩ = some (.slice none 0 0) := (sc_other (by simp)).trans (HZ.out.cellAt 1 _ rfl)
    have f0 := HZ.out.frozen 0
    have f1 := HZ.out.frozen 1
    have Hb1 : Hid (Below w.heap.size w w1) := by show Below _ _ _; (repeat' (first | (with_reducible exact Below.refl _ _) | (with_reducible assumption) | (with_reducible refine Below.alloc ?_ ?_ _) | (with_reducible refine Below.drew ?_) | (with_reducible refine below_drewN ?_ _) | (with_reducible refine Below.setCell ?_ ?_ _) | (with_reducible refine Below.trans ?_ (Below.mono (by assumption) ?_)) | (first | omega | (simp only [World.size_alloc, World.size_setCell, World.size_drew]; omega) | (simp; omega) | (simp; done))))
    clear hb1 hK
    go_wp2
    refine ret_cell_tmp Try.results16 Try.underlying24 rfl (by kernel_rfl) rfl ((HZ.out.set_ 0 (.int .i64 0)).set_ 1 (.slice none 0 0)) rfl rfl ⟨⟨none, 0, rfl, FrE.nil⟩, (Hb1.out.setCell (by show w.heap.size ≤ w.heap.size + 1; omega) _).setCell (by show w.heap.size ≤ w.heap.size + 1; omega) _⟩

set_option maxHeartbeats 8000000 in
/-- The graph. -/
theorem specBridge_yes (n : Int) (A : Option Addr) (c : Nat) (es : List (Int × Int)) (a b : Int) (w : World) (hl : es.length ≤ 1000) (hr : RdE w A es) (hq : Hid (isGraphB n es = true)) (hv : Hid ([a, b].all (fun v => inB v 0 ((es.length : Int) - 1)) = true)) (hab : a ≠ b) (hn : 2 ≤ n ∧ n + 2 ≤ 20) :
    Calls Try.prog 16 #[.agg #[.int .i64 n, .slice A es.length c], .int .i64 a, .int .i64 b] w fun e w' => RetG w' w.heap.size e (n + 2) (madeE (brL true n a b es es.length)) 0 ∧ Below w.heap.size w w' := by
  have c1 := fun W L (hW : Below w.heap.size w W) (hL : RdI W L [a, b]) => l06Edges_b n A c es L 2 [a, b] W true true hq hv (by omega) (by simp) (hr.below hW) hL
  have Hre : Hid (∀ W, Below w.heap.size w W → RdE W A es) := fun W hW => hr.below hW
  have Hlen : Hid (∀ k, 0 < (brL true n a b es k).length ∧ (brL true n a b es k).length ≤ 1 + 2 * k) := brL_len true n a b es
  obtain ⟨m, Hm⟩ : ∃ m, Hid (es.length = m) := ⟨_, rfl⟩
  rw [Hm.out] at hl c1 ⊢
  clear hr hq hv
  obtain ⟨hn0, hn2⟩ := hn
  have g1 : (a == b) = false := by simpa using hab
  have g2 : decide (n + 2 > 20) = false := by simp; omega
  obtain ⟨n1, Hn1⟩ : ∃ x : Int, Hid (n + 1 = x) := ⟨_, rfl⟩
  have p1 : wrap64 (n + 1) = n1 := by rw [← Hn1.out]; exact wrap64_small (by omega) (by omega)
  have p2 : wrap64 (n + 2) = n + 2 := wrap64_small (by omega) (by omega)
  have Hbn : Hid (2 ≤ n ∧ n + 2 ≤ 20) := ⟨hn0, hn2⟩
  clear hn0 hn2
  have hcz : gcode true true = 0 := rfl
  rw [hcz] at c1
  clear hcz
  go_enter Try.func16, Try.ntmps16
  go_wp2_with fail
  refine (c1 (((w.alloc (.cells #[.int .i64 n, .slice A m c] 24)).alloc (.cells #[.int .i64 0, .slice none 0 0] 24)).alloc (.cells #[.int .i64 a, .int .i64 b] 2)) (some ⟨w.heap.size + 2, 0, none⟩) (by (repeat' (first | (with_reducible exact Below.refl _ _) | (with_reducible assumption) | (with_reducible refine Below.alloc ?_ ?_ _) | (with_reducible refine Below.drew ?_) | (with_reducible refine below_drewN ?_ _) | (with_reducible refine Below.setCell ?_ ?_ _) | (with_reducible refine Below.trans ?_ (Below.mono (by assumption) ?_)) | (first | omega | (simp only [World.size_alloc, World.size_setCell, World.size_drew]; omega) | (simp; omega) | (simp; done))))) (blkI_rd (t := 2) (xs := [a, b]) (Blk.new' _ (by simp)))).mono ?_
  rintro e w1 ⟨rfl, hb1⟩
  have HZ1 : Hid (Blk w1 (w.heap.size + 1) 24 #[.int .i64 0, .slice none 0 0]) := ((Blk.new' (n := w.heap.size + 1) _ (by simp)).alloc _).below hb1 (by simp)
  have HK1 : Hid (Blk w1 w.heap.size 24 #[.int .i64 n, .slice A m c]) := (((Blk.new w _ _).alloc _).alloc _).below hb1 (by simp; omega)
  have k0 := HK1.out.cellAt 0 _ rfl
  have k1 := HK1.out.cellAt 1 _ rfl
  have z1 := hb1.size
  simp only [World.size_alloc, World.size_setCell, World.size_drew] at z1
  have Hb1 : Hid (Below w.heap.size w w1) := by show Below _ _ _; (repeat' (first | (with_reducible exact Below.refl _ _) | (with_reducible assumption) | (with_reducible refine Below.alloc ?_ ?_ _) | (with_reducible refine Below.drew ?_) | (with_reducible refine below_drewN ?_ _) | (with_reducible refine Below.setCell ?_ ?_ _) | (with_reducible refine Below.trans ?_ (Below.mono (by assumption) ?_)) | (first | omega | (simp only [World.size_alloc, World.size_setCell, World.size_drew]; omega) | (simp; omega) | (simp; done))))
  clear hb1 c1
  go_wp2_with fail
  simp only [p1, p2]
  go_loopw [9, 10] (fun s i wr => ∃ (k : Nat) (L : Nat), k ≤ m ∧ i = .int .i64 k ∧ Hid (L ≤ 2001) ∧ Hid (wr.ownsRow (w.heap.size + 2) 54 2 s L (cE (brL true n a b es k))) ∧ Hid (Blk wr (w.heap.size + 1) 24 #[.int .i64 0, .slice none 0 0]) ∧ Hid (Blk wr w.heap.size 24 #[.int .i64 n, .slice A m c]) ∧ Hid (Below w.heap.size w wr)) (fun _ i _ => m - (intOf i).toNat)
  case atStart => exact ⟨0, 1, Nat.zero_le _, rfl, by show _ ≤ _; omega, by { show World.ownsRow _ _ _ _ _ _ _; rw [brL_zero, Hn1.out]; exact own_mono (own_blk (xs := cE [(n, n1)]) (n := 1) (Blk.new' (n := w1.heap.size) _ rfl) rfl (by decide)) (by omega) }, HZ1.out.alloc _, HK1.out.alloc _, by have := Hb1.out; show Below _ _ _; (repeat' (first | (with_reducible exact Below.refl _ _) | (with_reducible assumption) | (with_reducible refine Below.alloc ?_ ?_ _) | (with_reducible refine Below.drew ?_) | (with_reducible refine below_drewN ?_ _) | (with_reducible refine Below.setCell ?_ ?_ _) | (with_reducible refine Below.trans ?_ (Below.mono (by assumption) ?_)) | (first | omega | (simp only [World.size_alloc, World.size_setCell, World.size_drew]; omega) | (simp; omega) | (simp; done))))⟩
  case round =>
    clear HZ1 HK1 k0 k1 z1 Hb1
    obtain ⟨k, L, hk, rfl, HL, Hown, HZ, HK, Hbel⟩ := hrel
    obtain ⟨A1, c1, rfl⟩ := own_form Hown.out
    have hsz := HZ.out.lt
    have k0 := HK.out.cellAt 0 _ rfl
    have k1 := HK.out.cellAt 1 _ rfl
    by_cases hlt : k < m
    · obtain ⟨bb, off, rfl, hb, hc⟩ := (Hre.out wr Hbel.out).pos (by rw [Hm.out]; omega)
      obtain ⟨hc0, hc1⟩ := hc k (by rw [Hm.out]; exact hlt)
      obtain ⟨⟨x, y⟩, Hxy⟩ : ∃ x, Hid (es.getD k (0, 0) = x) := ⟨_, rfl⟩
      rw [Hxy.out] at hc0 hc1
      dsimp only at hc0 hc1
      clear hc
      obtain ⟨P, HP⟩ : ∃ P, Hid (brL true n a b es k = P) := ⟨_, rfl⟩
      rw [HP.out] at Hown
      have HPL : Hid (L = P.length) := own_len Hown.out
      have HPl : Hid (P.length ≤ 1 + 2 * k) := by show _ ≤ _; rw [← HP.out]; exact (Hlen.out k).2
      have hkm : k ≤ 1000 := by omega
      obtain ⟨ek, ek2, ek3⟩ := idxF k m hlt
      by_cases ha : (k : Int) = a
      · have ga : ((k : Int) == a) = true := by simpa using ha
        have Hs : Hid (brL true n a b es (k + 1) = P ++ [(x, n), (y, n)]) := by show _ = _; rw [brL_succ, HP.out, Hxy.out]; simp [br1, ha]
        have Ha := Lib.hid ha; clear ha
        have hk0 : ((wr.alloc (.cells #[.int .i64 x, .int .i64 y] 54))).cell? ⟨w.heap.size, 0, none⟩ = some (.int .i64 n) := (HK.out.alloc _).cellAt 0 _ rfl
        have hown2 := own_below Hown.out (show Below wr.heap.size wr ((wr.alloc (.cells #[.int .i64 x, .int .i64 y] 54)).alloc (.cells #[.int .i64 x, .int .i64 n, .int .i64 y, .int .i64 n] 54)) by (repeat' (first | (with_reducible exact Below.refl _ _) | (with_reducible assumption) | (with_reducible refine Below.alloc ?_ ?_ _) | (with_reducible refine Below.drew ?_) | (with_reducible refine below_drewN ?_ _) | (with_reducible refine Below.setCell ?_ ?_ _) | (with_reducible refine Below.trans ?_ (Below.mono (by assumption) ?_)) | (first | omega | (simp only [World.size_alloc, World.size_setCell, World.size_drew]; omega) | (simp; omega) | (simp; done)))))
        have hB3 : Below w.heap.size w ((wr.alloc (.cells #[.int .i64 x, .int .i64 y] 54)).alloc (.cells #[.int .i64 x, .int .i64 n, .int .i64 y, .int .i64 n] 54)) := by have := Hbel.out; (repeat' (first | (with_reducible exact Below.refl _ _) | (with_reducible assumption) | (with_reducible refine Below.alloc ?_ ?_ _) | (with_reducible refine Below.drew ?_) | (with_reducible refine below_drewN ?_ _) | (with_reducible refine Below.setCell ?_ ?_ _) | (with_reducible refine Below.trans ?_ (Below.mono (by assumption) ?_)) | (first | omega | (simp only [World.size_alloc, World.size_setCell, World.size_drew]; omega) | (simp; omega) | (simp; done))))
        have hnew := blk2_rd (w := (wr.alloc (.cells #[.int .i64 x, .int .i64 y] 54))) (t := 54) (a := (x, n)) (b := (y, n)) (n := wr.heap.size + 1) (by simp)
        have hZ3 := (HZ.out.alloc (.cells #[.int .i64 x, .int .i64 y] 54)).alloc (.cells #[.int .i64 x, .int .i64 n, .int .i64 y, .int .i64 n] 54)
        have hK3 := (HK.out.alloc (.cells #[.int .i64 x, .int .i64 y] 54)).alloc (.cells #[.int .i64 x, .int .i64 n, .int .i64 y, .int .i64 n] 54)
        go_wp2_with (first
          | (at_builtin; refine wpList_appendE rfl rfl (w.heap.size + 2) _ L P rfl hown2 (wr.heap.size + 1) 0 2 2 [(x, n), (y, n)] rfl rfl hnew (by have := HL.out; omega) (by omega) (by simp; omega) ?_))
        intro v' w3 hown3 hfr hgr
        have Hb3 : Hid (Below w.heap.size w w3) := hfr w.heap.size w (by omega) hB3
        have HZ3 : Hid (Blk w3 (w.heap.size + 1) 24 #[.int .i64 0, .slice none 0 0]) := hZ3.below (hfr (w.heap.size + 2) _ (Nat.le_refl _) (Below.refl _ _)) (by omega)
        have HK3 : Hid (Blk w3 w.heap.size 24 #[.int .i64 n, .slice (some ⟨bb, off, none⟩) m c]) := hK3.below (hfr (w.heap.size + 2) _ (Nat.le_refl _) (Below.refl _ _)) (by omega)
        obtain ⟨g3, c3, rfl, _, _⟩ := own_someI hown3 (by omega)
        have Hown3 : Hid (w3.ownsRow (w.heap.size + 2) 54 2 (.slice (some ⟨g3, 0, none⟩) (L + 2) c3) (L + 2) (cE (brL true n a b es (k + 1)))) := by
          show World.ownsRow _ _ _ _ _ _ _
          rw [Hs.out]
          exact hown3
        have HL3 : Hid (L + 2 ≤ 2001) := by show _ ≤ _; have h1 := own_len Hown3.out; have h2 := (Hlen.out (k + 1)).2; omega
        have hk9 : k ≤ 1000 := hkm
        clear hown3 hfr hgr hown2 hnew hB3 Hown hZ3 hK3 HZ HK Hbel k0 k1 hc0 hc1 hkm
        go_wp2
        exact ⟨⟨k + 1, L + 2, by omega, by go_num, HL3, Hown3, HZ3, HK3, Hb3⟩, by simp [intOf]; omega⟩
      · have ga : ((k : Int) == a) = false := by simpa using ha
        by_cases hb9 : (k : Int) = b
        · have gb : ((k : Int) == b) = true := by simpa using hb9
          have Hs : Hid (brL true n a b es (k + 1) = P ++ [(x, n1), (y, n1)]) := by show _ = _; rw [brL_succ, HP.out, Hxy.out, ← Hn1.out]; simp [br1, ha, hb9, hab.symm]
          have Ha := Lib.hid ha; have Hb9 := Lib.hid hb9; clear ha hb9
          have hk0 : ((wr.alloc (.cells #[.int .i64 x, .int .i64 y] 54))).cell? ⟨w.heap.size, 0, none⟩ = some (.int .i64 n) := (HK.out.alloc _).cellAt 0 _ rfl
          have hown2 := own_below Hown.out (show Below wr.heap.size wr ((wr.alloc (.cells #[.int .i64 x, .int .i64 y] 54)).alloc (.cells #[.int .i64 x, .int .i64 n1, .int .i64 y, .int .i64 n1] 54)) by (repeat' (first | (with_reducible exact Below.refl _ _) | (with_reducible assumption) | (with_reducible refine Below.alloc ?_ ?_ _) | (with_reducible refine Below.drew ?_) | (with_reducible refine below_drewN ?_ _) | (with_reducible refine Below.setCell ?_ ?_ _) | (with_reducible refine Below.trans ?_ (Below.mono (by assumption) ?_)) | (first | omega | (simp only [World.size_alloc, World.size_setCell, World.size_drew]; omega) | (simp; omega) | (simp; done)))))
          have hB3 : Below w.heap.size w ((wr.alloc (.cells #[.int .i64 x, .int .i64 y] 54)).alloc (.cells #[.int .i64 x, .int .i64 n1, .int .i64 y, .int .i64 n1] 54)) := by have := Hbel.out; (repeat' (first | (with_reducible exact Below.refl _ _) | (with_reducible assumption) | (with_reducible refine Below.alloc ?_ ?_ _) | (with_reducible refine Below.drew ?_) | (with_reducible refine below_drewN ?_ _) | (with_reducible refine Below.setCell ?_ ?_ _) | (with_reducible refine Below.trans ?_ (Below.mono (by assumption) ?_)) | (first | omega | (simp only [World.size_alloc, World.size_setCell, World.size_drew]; omega) | (simp; omega) | (simp; done))))
          have hnew := blk2_rd (w := (wr.alloc (.cells #[.int .i64 x, .int .i64 y] 54))) (t := 54) (a := (x, n1)) (b := (y, n1)) (n := wr.heap.size + 1) (by simp)
          have hZ3 := (HZ.out.alloc (.cells #[.int .i64 x, .int .i64 y] 54)).alloc (.cells #[.int .i64 x, .int .i64 n1, .int .i64 y, .int .i64 n1] 54)
          have hK3 := (HK.out.alloc (.cells #[.int .i64 x, .int .i64 y] 54)).alloc (.cells #[.int .i64 x, .int .i64 n1, .int .i64 y, .int .i64 n1] 54)
          go_wp2_with (first
            | (at_builtin; refine wpList_appendE rfl rfl (w.heap.size + 2) _ L P rfl hown2 (wr.heap.size + 1) 0 2 2 [(x, n1), (y, n1)] rfl rfl hnew (by have := HL.out; omega) (by omega) (by simp; omega) ?_))
          intro v' w3 hown3 hfr hgr
          have Hb3 : Hid (Below w.heap.size w w3) := hfr w.heap.size w (by omega) hB3
          have HZ3 : Hid (Blk w3 (w.heap.size + 1) 24 #[.int .i64 0, .slice none 0 0]) := hZ3.below (hfr (w.heap.size + 2) _ (Nat.le_refl _) (Below.refl _ _)) (by omega)
          have HK3 : Hid (Blk w3 w.heap.size 24 #[.int .i64 n, .slice (some ⟨bb, off, none⟩) m c]) := hK3.below (hfr (w.heap.size + 2) _ (Nat.le_refl _) (Below.refl _ _)) (by omega)
          obtain ⟨g3, c3, rfl, _, _⟩ := own_someI hown3 (by omega)
          have Hown3 : Hid (w3.ownsRow (w.heap.size + 2) 54 2 (.slice (some ⟨g3, 0, none⟩) (L + 2) c3) (L + 2) (cE (brL true n a b es (k + 1)))) := by
            show World.ownsRow _ _ _ _ _ _ _
            rw [Hs.out]
            exact hown3
          have HL3 : Hid (L + 2 ≤ 2001) := by show _ ≤ _; have h1 := own_len Hown3.out; have h2 := (Hlen.out (k + 1)).2; omega
          have hk9 : k ≤ 1000 := hkm
          clear hown3 hfr hgr hown2 hnew hB3 Hown hZ3 hK3 HZ HK Hbel k0 k1 hc0 hc1 hkm
          go_wp2
          exact ⟨⟨k + 1, L + 2, by omega, by go_num, HL3, Hown3, HZ3, HK3, Hb3⟩, by simp [intOf]; omega⟩
        · have gb : ((k : Int) == b) = false := by simpa using hb9
          have Hs : Hid (brL true n a b es (k + 1) = P ++ [(x, y)]) := by show _ = _; rw [brL_succ, HP.out, Hxy.out]; simp [br1, ha, hb9]
          have hown2 := own_below Hown.out (show Below wr.heap.size wr ((wr.alloc (.cells #[.int .i64 x, .int .i64 y] 54)).alloc (.cells #[.int .i64 x, .int .i64 y] 54)) by (repeat' (first | (with_reducible exact Below.refl _ _) | (with_reducible assumption) | (with_reducible refine Below.alloc ?_ ?_ _) | (with_reducible refine Below.drew ?_) | (with_reducible refine below_drewN ?_ _) | (with_reducible refine Below.setCell ?_ ?_ _) | (with_reducible refine Below.trans ?_ (Below.mono (by assumption) ?_)) | (first | omega | (simp only [World.size_alloc, World.size_setCell, World.size_drew]; omega) | (simp; omega) | (simp; done)))))
          have hB3 : Below w.heap.size w ((wr.alloc (.cells #[.int .i64 x, .int .i64 y] 54)).alloc (.cells #[.int .i64 x, .int .i64 y] 54)) := by have := Hbel.out; (repeat' (first | (with_reducible exact Below.refl _ _) | (with_reducible assumption) | (with_reducible refine Below.alloc ?_ ?_ _) | (with_reducible refine Below.drew ?_) | (with_reducible refine below_drewN ?_ _) | (with_reducible refine Below.setCell ?_ ?_ _) | (with_reducible refine Below.trans ?_ (Below.mono (by assumption) ?_)) | (first | omega | (simp only [World.size_alloc, World.size_setCell, World.size_drew]; omega) | (simp; omega) | (simp; done))))
          have hnew := blk1_rd (w := (wr.alloc (.cells #[.int .i64 x, .int .i64 y] 54))) (t := 54) (a := (x, y)) (n := wr.heap.size + 1) (by simp)
          have hZ3 := (HZ.out.alloc (.cells #[.int .i64 x, .int .i64 y] 54)).alloc (.cells #[.int .i64 x, .int .i64 y] 54)
          have hK3 := (HK.out.alloc (.cells #[.int .i64 x, .int .i64 y] 54)).alloc (.cells #[.int .i64 x, .int .i64 y] 54)
          go_wp2_with (first
            | (at_builtin; refine wpList_appendE rfl rfl (w.heap.size + 2) _ L P rfl hown2 (wr.heap.size + 1) 0 1 1 [(x, y)] rfl rfl hnew (by have := HL.out; omega) (by omega) (by simp; omega) ?_))
          intro v' w3 hown3 hfr hgr
          have Hb3 : Hid (Below w.heap.size w w3) := hfr w.heap.size w (by omega) hB3
          have HZ3 : Hid (Blk w3 (w.heap.size + 1) 24 #[.int .i64 0, .slice none 0 0]) := hZ3.below (hfr (w.heap.size + 2) _ (Nat.le_refl _) (Below.refl _ _)) (by omega)
          have HK3 : Hid (Blk w3 w.heap.size 24 #[.int .i64 n, .slice (some ⟨bb, off, none⟩) m c]) := hK3.below (hfr (w.heap.size + 2) _ (Nat.le_refl _) (Below.refl _ _)) (by omega)
          obtain ⟨g3, c3, rfl, _, _⟩ := own_someI hown3 (by omega)
          have Hown3 : Hid (w3.ownsRow (w.heap.size + 2) 54 2 (.slice (some ⟨g3, 0, none⟩) (L + 1) c3) (L + 1) (cE (brL true n a b es (k + 1)))) := by
            show World.ownsRow _ _ _ _ _ _ _
            rw [Hs.out]
            exact hown3
          have HL3 : Hid (L + 1 ≤ 2001) := by show _ ≤ _; have h1 := own_len Hown3.out; have h2 := (Hlen.out (k + 1)).2; omega
          have hk9 : k ≤ 1000 := hkm
          clear hown3 hfr hgr hown2 hnew hB3 Hown hZ3 hK3 HZ HK Hbel k0 k1 hc0 hc1 hkm
          go_wp2
          exact ⟨⟨k + 1, L + 1, by omega, by go_num, HL3, Hown3, HZ3, HK3, Hb3⟩, by simp [intOf]; omega⟩
    · obtain rfl : k = m := by omega
      have HLl : Hid (L = (brL true n a b es k).length) := own_len Hown.out
      have hrd := own_rdE Hown.out
      have cm := l01Made_b (n + 2) A1 c1 (brL true n a b es k) wr (by have := (Hlen.out k).2; omega) hrd
      rw [← HLl.out] at cm
      go_wp2_with fail
      refine cm.mono ?_
      rintro e w4 ⟨A3, c3, rfl, hF, hb4⟩
      have hZ4 := HZ.out.below hb4 hsz
      have x0 := hZ4.cellAt 0 _ rfl
      have x1 : (w4.setCell ⟨w.heap.size + 1, 0, none⟩ (.int .i64 (n + 2))).cell? ⟨w.heap.size + 1, 1, none⟩ = some (.slice none 0 0) := (sc_other (by simp)).trans (hZ4.cellAt 1 _ rfl)
      have f0 := hZ4.frozen 0
      have f1 := hZ4.frozen 1
      have HZ4 := Lib.hid hZ4
      have HF := Lib.hid hF
      have Hb4 : Hid (Below w.heap.size w w4) := Hbel.out.trans (hb4.mono (by omega))
      clear hZ4 hF hb4 cm hrd HZ HK Hown Hbel k0 k1
      go_wp2
      refine ret_cell_tmp Try.results16 Try.underlying24 rfl (by kernel_rfl) rfl ((HZ4.out.set_ 0 (.int .i64 (n + 2))).set_ 1 (.slice A3 L c3)) rfl rfl ⟨⟨A3, c3, ?_, FrE.mono (n0 := wr.heap.size) ?_ (by omega)⟩, (Hb4.out.setCell (by show w.heap.size ≤ w.heap.size + 1; omega) _).setCell (by show w.heap.size ≤ w.heap.size + 1; omega) _⟩
      · rw [madeE_len, ← HLl.out]; rfl
      · exact HF.out.away (((Only.refl _ _).set 0 _).set 1 _ : Only (some ⟨w.heap.size + 1, 0, none⟩) w4 _) hsz
end Go.Proofs.Ytblidpodbpoaeaa
namespace Go.Proofs.Ytblidpodbpoaeaa
open Go.RowKit
set_option linter.unusedSimpArgs false
set_option linter.unusedVariables false
set_option maxRecDepth 20000

theorem ent_bridge1 : Ent 45 := enters_of Try.func45 (by kernel_rfl) rfl

set_option maxHeartbeats 8000000 in
/-- The function value that BridgeEdges hands to limited. -/
theorem bridge1_b (gg ga gb : Nat) (n : Int) (A : Option Addr) (c : Nat) (es : List (Int × Int)) (a b : Int) (w : World) (hl : es.length ≤ 1000) (hr : RdE w A es) (hab : a ≠ b) (hn : 2 ≤ n ∧ n + 2 ≤ 20)
    (hg : Blk w gg 24 #[.int .i64 n, .slice A es.length c]) (ha : Blk w ga 2 #[.int .i64 a]) (hb : Blk w gb 2 #[.int .i64 b]) :
    Calls Try.prog 45 #[.pointer (some ⟨gg, 0, none⟩), .pointer (some ⟨ga, 0, none⟩), .pointer (some ⟨gb, 0, none⟩)] w fun e w' => ∃ A' c', e = .returned (.slice A' (brL false n a b es es.length).length c') ∧ RdE w' A' (brL false n a b es es.length) ∧ Below w.heap.size w w' := by
  have Hre : Hid (∀ W, Below w.heap.size w W → RdE W A es) := fun W hW => hr.below hW
  have Hlen : Hid (∀ k, 0 < (brL false n a b es k).length ∧ (brL false n a b es k).length ≤ 1 + 2 * k) := brL_len false n a b es
  obtain ⟨m, Hm⟩ : ∃ m, Hid (es.length = m) := ⟨_, rfl⟩
  rw [Hm.out] at hl hg ⊢
  clear hr
  have k0 := hg.cellAt 0 _ rfl
  have k1 := hg.cellAt 1 _ rfl
  have HA := Lib.hid ha
  have HB := Lib.hid hb
  clear ha hb
  obtain ⟨hn0, hn2⟩ := hn
  obtain ⟨n1, Hn1⟩ : ∃ x : Int, Hid (n + 1 = x) := ⟨_, rfl⟩
  have p1 : wrap64 (n + 1) = n1 := by rw [← Hn1.out]; exact wrap64_small (by omega) (by omega)
  have k2 := (hg.alloc (.cells #[.int .i64 n, .int .i64 n1] 54)).cellAt 1 _ rfl
  clear hn0 hn2 hg
  go_enter Try.func45, Try.ntmps45
  go_wp2_with fail
  clear k0 k1 k2
  simp only [p1]
  go_loopw [5, 18] (fun s i wr => ∃ (k : Nat) (L : Nat), k ≤ m ∧ i = .int .i64 k ∧ Hid (L ≤ 2001) ∧ Hid (wr.ownsRow w.heap.size 54 2 s L (cE (brL false n a b es k))) ∧ Hid (Below w.heap.size w wr)) (fun _ i _ => m - (intOf i).toNat)
  case atStart => exact ⟨0, 1, Nat.zero_le _, rfl, by show _ ≤ _; omega, by { show World.ownsRow _ _ _ _ _ _ _; rw [brL_zero, Hn1.out]; exact own_blk (xs := cE [(n, n1)]) (n := 1) (Blk.new' _ rfl) rfl (by decide) }, by show Below _ _ _; (repeat' (first | (with_reducible exact Below.refl _ _) | (with_reducible assumption) | (with_reducible refine Below.alloc ?_ ?_ _) | (with_reducible refine Below.drew ?_) | (with_reducible refine below_drewN ?_ _) | (with_reducible refine Below.setCell ?_ ?_ _) | (with_reducible refine Below.trans ?_ (Below.mono (by assumption) ?_)) | (first | omega | (simp only [World.size_alloc, World.size_setCell, World.size_drew]; omega) | (simp; omega) | (simp; done))))⟩
  case round =>
    obtain ⟨k, L, hk, rfl, HL, Hown, Hbel⟩ := hrel
    obtain ⟨A1, c1, rfl⟩ := own_form Hown.out
    have hsz := Hbel.out.size
    by_cases hlt : k < m
    · obtain ⟨bb, off, rfl, hb, hc⟩ := (Hre.out wr Hbel.out).pos (by rw [Hm.out]; omega)
      obtain ⟨hc0, hc1⟩ := hc k (by rw [Hm.out]; exact hlt)
      obtain ⟨⟨x, y⟩, Hxy⟩ : ∃ x, Hid (es.getD k (0, 0) = x) := ⟨_, rfl⟩
      rw [Hxy.out] at hc0 hc1
      dsimp only at hc0 hc1
      clear hc
      obtain ⟨P, HP⟩ : ∃ P, Hid (brL false n a b es k = P) := ⟨_, rfl⟩
      rw [HP.out] at Hown
      have HPL : Hid (L = P.length) := own_len Hown.out
      have hkm : k ≤ 1000 := by omega
      obtain ⟨ek, ek2, ek3⟩ := idxF k m hlt
      have ka := ((HA.out.below Hbel.out HA.out.lt).alloc (.cells #[.int .i64 x, .int .i64 y] 54)).cellAt 0 _ rfl
      have kb := ((HB.out.below Hbel.out HB.out.lt).alloc (.cells #[.int .i64 x, .int .i64 y] 54)).cellAt 0 _ rfl
      by_cases ha : (k : Int) = a
      · have ga9 : ((k : Int) == a) = true := by simpa using ha
        have Hs : Hid (brL false n a b es (k + 1) = P ++ [(x, n), (n, y)]) := by show _ = _; rw [brL_succ, HP.out, Hxy.out]; simp [br1, ha]
        have Ha := Lib.hid ha; clear ha
        have hown2 := own_below Hown.out (show Below wr.heap.size wr ((wr.alloc (.cells #[.int .i64 x, .int .i64 y] 54)).alloc (.cells #[.int .i64 x, .int .i64 n, .int .i64 n, .int .i64 y] 54)) by (repeat' (first | (with_reducible exact Below.refl _ _) | (with_reducible assumption) | (with_reducible refine Below.alloc ?_ ?_ _) | (with_reducible refine Below.drew ?_) | (with_reducible refine below_drewN ?_ _) | (with_reducible refine Below.setCell ?_ ?_ _) | (with_reducible refine Below.trans ?_ (Below.mono (by assumption) ?_)) | (first | omega | (simp only [World.size_alloc, World.size_setCell, World.size_drew]; omega) | (simp; omega) | (simp; done)))))
        have hB3 : Below w.heap.size w ((wr.alloc (.cells #[.int .i64 x, .int .i64 y] 54)).alloc (.cells #[.int .i64 x, .int .i64 n, .int .i64 n, .int .i64 y] 54)) := by have := Hbel.out; (repeat' (first | (with_reducible exact Below.refl _ _) | (with_reducible assumption) | (with_reducible refine Below.alloc ?_ ?_ _) | (with_reducible refine Below.drew ?_) | (with_reducible refine below_drewN ?_ _) | (with_reducible refine Below.setCell ?_ ?_ _) | (with_reducible refine Below.trans ?_ (Below.mono (by assumption) ?_)) | (first | omega | (simp only [World.size_alloc, World.size_setCell, World.size_drew]; omega) | (simp; omega) | (simp; done))))
        have hnew := blk2_rd (w := (wr.alloc (.cells #[.int .i64 x, .int .i64 y] 54))) (t := 54) (a := (x, n)) (b := (n, y)) (n := wr.heap.size + 1) (by simp)
        go_wp2_with (first
          | (at_builtin; refine wpList_appendE rfl rfl (w.heap.size) _ L P rfl hown2 (wr.heap.size + 1) 0 2 2 [(x, n), (n, y)] rfl rfl hnew (by have := HL.out; omega) (by omega) (by simp; omega) ?_))
        intro v' w3 hown3 hfr hgr
        have Hb3 : Hid (Below w.heap.size w w3) := hfr w.heap.size w (by omega) hB3
        obtain ⟨g3, c3, rfl, _, _⟩ := own_someI hown3 (by omega)
        have Hown3 : Hid (w3.ownsRow (w.heap.size) 54 2 (.slice (some ⟨g3, 0, none⟩) (L + 2) c3) (L + 2) (cE (brL false n a b es (k + 1)))) := by
          show World.ownsRow _ _ _ _ _ _ _
          rw [Hs.out]
          exact hown3
        have HL3 : Hid (L + 2 ≤ 2001) := by show _ ≤ _; have h1 := own_len Hown3.out; have h2 := (Hlen.out (k + 1)).2; omega
        have hk9 : k ≤ 1000 := hkm
        clear hown3 hfr hgr hown2 hnew hB3 Hown Hbel hc0 hc1 hkm ka kb
        go_wp2
        exact ⟨⟨k + 1, L + 2, by omega, by go_num, HL3, Hown3, Hb3⟩, by simp [intOf]; omega⟩
      · have ga9 : ((k : Int) == a) = false := by simpa using ha
        by_cases hb9 : (k : Int) = b
        · have gb9 : ((k : Int) == b) = true := by simpa using hb9
          have Hs : Hid (brL false n a b es (k + 1) = P ++ [(x, n1), (n1, y)]) := by show _ = _; rw [brL_succ, HP.out, Hxy.out, ← Hn1.out]; simp [br1, ha, hb9, hab.symm]
          have Ha := Lib.hid ha; have Hb9 := Lib.hid hb9; clear ha hb9
          have hown2 := own_below Hown.out (show Below wr.heap.size wr ((wr.alloc (.cells #[.int .i64 x, .int .i64 y] 54)).alloc (.cells #[.int .i64 x, .int .i64 n1, .int .i64 n1, .int .i64 y] 54)) by (repeat' (first | (with_reducible exact Below.refl _ _) | (with_reducible assumption) | (with_reducible refine Below.alloc ?_ ?_ _) | (with_reducible refine Below.drew ?_) | (with_reducible refine below_drewN ?_ _) | (with_reducible refine Below.setCell ?_ ?_ _) | (with_reducible refine Below.trans ?_ (Below.mono (by assumption) ?_)) | (first | omega | (simp only [World.size_alloc, World.size_setCell, World.size_drew]; omega) | (simp; omega) | (simp; done)))))
          have hB3 : Below w.heap.size w ((wr.alloc (.cells #[.int .i64 x, .int .i64 y] 54)).alloc (.cells #[.int .i64 x, .int .i64 n1, .int .i64 n1, .int .i64 y] 54)) := by have := Hbel.out; (repeat' (first | (with_reducible exact Below.refl _ _) | (with_reducible assumption) | (with_reducible refine Below.alloc ?_ ?_ _) | (with_reducible refine Below.drew ?_) | (with_reducible refine below_drewN ?_ _) | (with_reducible refine Below.setCell ?_ ?_ _) | (with_reducible refine Below.trans ?_ (Below.mono (by assumption) ?_)) | (first | omega | (simp only [World.size_alloc, World.size_setCell, World.size_drew]; omega) | (simp; omega) | (simp; done))))
          have hnew := blk2_rd (w := (wr.alloc (.cells #[.int .i64 x, .int .i64 y] 54))) (t := 54) (a := (x, n1)) (b := (n1, y)) (n := wr.heap.size + 1) (by simp)
          go_wp2_with (first
            | (at_builtin; refine wpList_appendE rfl rfl (w.heap.size) _ L P rfl hown2 (wr.heap.size + 1) 0 2 2 [(x, n1), (n1, y)] rfl rfl hnew (by have := HL.out; omega) (by omega) (by simp; omega) ?_))
          intro v' w3 hown3 hfr hgr
          have Hb3 : Hid (Below w.heap.size w w3) := hfr w.heap.size w (by omega) hB3
          obtain ⟨g3, c3, rfl, _, _⟩ := own_someI hown3 (by omega)
          have Hown3 : Hid (w3.ownsRow (w.heap.size) 54 2 (.slice (some ⟨g3, 0, none⟩) (L + 2) c3) (L + 2) (cE (brL false n a b es (k + 1)))) := by
            show World.ownsRow _ _ _ _ _ _ _
            rw [Hs.out]
            exact hown3
          have HL3 : Hid (L + 2 ≤ 2001) := by show _ ≤ _; have h1 := own_len Hown3.out; have h2 := (Hlen.out (k + 1)).2; omega
          have hk9 : k ≤ 1000 := hkm
          clear hown3 hfr hgr hown2 hnew hB3 Hown Hbel hc0 hc1 hkm ka kb
          go_wp2
          exact ⟨⟨k + 1, L + 2, by omega, by go_num, HL3, Hown3, Hb3⟩, by simp [intOf]; omega⟩
        · have gb9 : ((k : Int) == b) = false := by simpa using hb9
          have Hs : Hid (brL false n a b es (k + 1) = P ++ [(x, y)]) := by show _ = _; rw [brL_succ, HP.out, Hxy.out]; simp [br1, ha, hb9]
          have hown2 := own_below Hown.out (show Below wr.heap.size wr ((wr.alloc (.cells #[.int .i64 x, .int .i64 y] 54)).alloc (.cells #[.int .i64 x, .int .i64 y] 54)) by (repeat' (first | (with_reducible exact Below.refl _ _) | (with_reducible assumption) | (with_reducible refine Below.alloc ?_ ?_ _) | (with_reducible refine Below.drew ?_) | (with_reducible refine below_drewN ?_ _) | (with_reducible refine Below.setCell ?_ ?_ _) | (with_reducible refine Below.trans ?_ (Below.mono (by assumption) ?_)) | (first | omega | (simp only [World.size_alloc, World.size_setCell, World.size_drew]; omega) | (simp; omega) | (simp; done)))))
          have hB3 : Below w.heap.size w ((wr.alloc (.cells #[.int .i64 x, .int .i64 y] 54)).alloc (.cells #[.int .i64 x, .int .i64 y] 54)) := by have := Hbel.out; (repeat' (first | (with_reducible exact Below.refl _ _) | (with_reducible assumption) | (with_reducible refine Below.alloc ?_ ?_ _) | (with_reducible refine Below.drew ?_) | (with_reducible refine below_drewN ?_ _) | (with_reducible refine Below.setCell ?_ ?_ _) | (with_reducible refine Below.trans ?_ (Below.mono (by assumption) ?_)) | (first | omega | (simp only [World.size_alloc, World.size_setCell, World.size_drew]; omega) | (simp; omega) | (simp; done))))
          have hnew := blk1_rd (w := (wr.alloc (.cells #[.int .i64 x, .int .i64 y] 54))) (t := 54) (a := (x, y)) (n := wr.heap.size + 1) (by simp)
          go_wp2_with (first
            | (at_builtin; refine wpList_appendE rfl rfl (w.heap.size) _ L P rfl hown2 (wr.heap.size + 1) 0 1 1 [(x, y)] rfl rfl hnew (by have := HL.out; omega) (by omega) (by simp; omega) ?_))
          intro v' w3 hown3 hfr hgr
          have Hb3 : Hid (Below w.heap.size w w3) := hfr w.heap.size w (by omega) hB3
          obtain ⟨g3, c3, rfl, _, _⟩ := own_someI hown3 (by omega)
          have Hown3 : Hid (w3.ownsRow (w.heap.size) 54 2 (.slice (some ⟨g3, 0, none⟩) (L + 1) c3) (L + 1) (cE (brL false n a b es (k + 1)))) := by
            show World.ownsRow _ _ _ _ _ _ _
            rw [Hs.out]
            exact hown3
          have HL3 : Hid (L + 1 ≤ 2001) := by show _ ≤ _; have h1 := own_len Hown3.out; have h2 := (Hlen.out (k + 1)).2; omega
          have hk9 : k ≤ 1000 := hkm
          clear hown3 hfr hgr hown2 hnew hB3 Hown Hbel hc0 hc1 hkm ka kb
          go_wp2
          exact ⟨⟨k + 1, L + 1, by omega, by go_num, HL3, Hown3, Hb3⟩, by simp [intOf]; omega⟩
    · obtain rfl : k = m := by omega
      have HLl : Hid (L = (brL false n a b es k).length) := own_len Hown.out
      go_wp2
      go_ret
      rw [← HLl.out]
      exact ⟨A1, c1, rfl, own_rdE Hown.out, Hbel.out⟩
end Go.Proofs.Ytblidpodbpoaeaa
namespace Go.Proofs.Ytblidpodbpoaeaa
open Go.RowKit
set_option linter.unusedSimpArgs false
set_option linter.unusedVariables false
set_option maxRecDepth 20000

set_option maxHeartbeats 4000000 in
/-- The errors. -/
theorem implBridge_errtrue (n : Int) (A : Option Addr) (c : Nat) (es : List (Int × Int)) (a b : Int) (w : World) (hl : es.length ≤ 1048576) (hr : RdE w A es) (v : Int) (qg qb : Bool) (hq : Hid (isGraphB n es = qg)) (ha : Hid (inB a 0 ((es.length : Int) - 1) = true)) (hb : Hid (inB b 0 ((es.length : Int) - 1) = qb))
    (h : (gcode qg (true && qb) = v ∧ v ≠ 0) ∨ (gcode qg (true && qb) = 0 ∧ a = b ∧ v = 5)) :
    Calls Try.prog 18 #[.agg #[.int .i64 n, .slice A es.length c], .int .i64 a, .int .i64 b] w fun e w' => RetG w' w.heap.size e 0 [] v ∧ Below w.heap.size w w' := by
  have ca := fun W => isEdge_b n A es.length c a W true ha hl
  have cb := fun W => isEdge_b n A es.length c b W qb hb hl
  have cg := fun W (hW : Below w.heap.size w W) => graphCode_b n A c es W qg (true && qb) hq hl (hr.below hW)
  clear hr hq ha hb
  generalize es.length = m at *
  rcases h with ⟨hc, hv0⟩ | ⟨hc, hab, rfl⟩
  · have g1 : (v != 0) = true := by simpa using hv0
    rw [hc] at cg
    clear hc hv0
    go_enter Try.func18, Try.ntmps18
    have kb : ((((w.alloc (.cells #[.int .i64 n, .slice A m c] 24)).alloc (.cells #[.int .i64 a] 2)).alloc (.cells #[.int .i64 b] 2)).alloc (.cells #[.int .i64 0, .slice none 0 0] 24)).cell? ⟨w.heap.size + 1 + 1, 0, none⟩ = some (.int .i64 b) := ((Blk.new' (n := w.heap.size + 1 + 1) _ (by simp)).alloc _).cellAt 0 _ rfl
    go_wp2
    refine wp_region_noPanic ?_
    refine wp_region_held_drew (S := (fun w' => w'.cell? ⟨w.heap.size, 0, none⟩ = some (.int .i64 n) ∧ w'.cell? ⟨w.heap.size, 1, none⟩ = some (.slice A m c) ∧ w'.cell? ⟨w.heap.size + 1, 0, none⟩ = some (.int .i64 a) ∧ w'.cell? ⟨w.heap.size + 1 + 1, 0, none⟩ = some (.int .i64 b))) (by kernel_rfl) ?_ (fun hHeld => ?_)
    · (try dsimp only); (first | go_keep | (obtain ⟨hq, _⟩ := bcell ‹Below _ _ _›; (repeat' apply And.intro) <;> (rw [hq _ _ (by first | assumption | omega | (simp; done) | (simp; omega) | (simp; assumption))] <;> (first | assumption | (simp [*]; done)))))
    refine wpAnyH_take_d (i := 0) (d := some 9) (v := ?v1) rfl rfl (by kernel_rfl) (by kernel_rfl) (by kernel_rfl) (fun _ _ _ h => h) (Or.inl ⟨by kernel_rfl, ?y1⟩) (by assumption) ?_
    case y1 => (intro w' hSw; (try dsimp only at hSw); go_simp; try with_reducible rfl)
    try simp only [Act.put, List.setIfInBounds_toArray, List.set_cons_zero, List.set_cons_succ]
    refine wpAnyH_take_d (i := 1) (d := some 10) (v := ?v2) rfl rfl (by kernel_rfl) (by kernel_rfl) (by kernel_rfl) (fun _ _ _ h => h) (Or.inl ⟨by kernel_rfl, ?y2⟩) (by assumption) ?_
    case y2 => (intro w' hSw; (try dsimp only at hSw); go_simp; try with_reducible rfl)
    try simp only [Act.put, List.setIfInBounds_toArray, List.set_cons_zero, List.set_cons_succ]
    refine wpAnyH_take_d (i := 2) (d := some 11) (v := ?v3) rfl rfl (by kernel_rfl) (by kernel_rfl) (by kernel_rfl) (fun _ _ _ h => h) (Or.inl ⟨by kernel_rfl, ?y3⟩) (by assumption) ?_
    case y3 => (intro w' hSw; (try dsimp only at hSw); go_simp; try with_reducible rfl)
    try simp only [Act.put, List.setIfInBounds_toArray, List.set_cons_zero, List.set_cons_succ]
    refine wpAnyH_ready (rs := [3]) (by kernel_rfl) (by simp) ?_
    refine AllReadyH.cons rfl (fun K hK => ?_) AllReadyH.nil
    go_simp
    refine (ca _).mono ?_; rintro e w1 ⟨rfl, hb1⟩; have z1 := hb1.size; (try simp only [World.size_alloc, World.size_setCell, World.size_drew] at z1)
    refine hK.out _ _ ?s4 (fun hHeld4 => ?_)
    case s4 => ((try dsimp only); (first | go_keep | (obtain ⟨hq, _⟩ := bcell ‹Below _ _ _›; (repeat' apply And.intro) <;> (rw [hq _ _ (by first | assumption | omega | (simp; done) | (simp; omega) | (simp; assumption))] <;> (first | assumption | (simp [*]; done))))))
    clear hK K hHeld
    have hHeld := hHeld4; clear hHeld4
    try simp only [Act.put, List.setIfInBounds_toArray, List.set_cons_zero, List.set_cons_succ]
    refine wpAnyH_take_d (i := 4) (d := some 13) (v := ?v5) rfl rfl (by kernel_rfl) (by kernel_rfl) (by kernel_rfl) (fun _ _ _ h => h) (Or.inl ⟨by kernel_rfl, ?y5⟩) (by assumption) ?_
    case y5 => (intro w' hSw; (try dsimp only at hSw); go_simp; try with_reducible rfl)
    try simp only [Act.put, List.setIfInBounds_toArray, List.set_cons_zero, List.set_cons_succ]
    refine wpAnyH_take_d (i := 5) (d := some 14) (v := ?v6) rfl rfl (by kernel_rfl) (by kernel_rfl) (by kernel_rfl) (fun _ _ _ h => h) (Or.inl ⟨by kernel_rfl, ?y6⟩) (by assumption) ?_
    case y6 => (intro w' hSw; (try dsimp only at hSw); go_simp; try with_reducible rfl)
    try simp only [Act.put, List.setIfInBounds_toArray, List.set_cons_zero, List.set_cons_succ]
    refine wpAnyH_take_d (i := 6) (d := some 15) (v := ?v7) rfl rfl (by kernel_rfl) (by kernel_rfl) (by kernel_rfl) (fun _ _ _ h => h) (Or.inl ⟨by kernel_rfl, ?y7⟩) (by assumption) ?_
    case y7 => (intro w' hSw; (try dsimp only at hSw); go_simp; try with_reducible rfl)
    try simp only [Act.put, List.setIfInBounds_toArray, List.set_cons_zero, List.set_cons_succ]
    refine wpAnyH_ready (rs := [7]) (by kernel_rfl) (by simp) ?_
    refine AllReadyH.cons rfl (fun K hK => ?_) AllReadyH.nil
    go_simp
    refine (cb _).mono ?_; rintro e w2 ⟨rfl, hb2⟩; have z2 := hb2.size; (try simp only [World.size_alloc, World.size_setCell, World.size_drew] at z2)
    refine hK.out _ _ ?s8 (fun hHeld8 => ?_)
    case s8 => ((try dsimp only); (first | go_keep | (obtain ⟨hq, _⟩ := bcell ‹Below _ _ _›; (repeat' apply And.intro) <;> (rw [hq _ _ (by first | assumption | omega | (simp; done) | (simp; omega) | (simp; assumption))] <;> (first | assumption | (simp [*]; done))))))
    clear hK K hHeld
    have hHeld := hHeld8; clear hHeld8
    try simp only [Act.put, List.setIfInBounds_toArray, List.set_cons_zero, List.set_cons_succ]
    refine wpAnyH_take_d (i := 8) (d := some 17) (v := ?v9) rfl rfl (by kernel_rfl) (by kernel_rfl) (by kernel_rfl) (fun _ _ _ h => h) (Or.inl ⟨by kernel_rfl, ?y9⟩) (by assumption) ?_
    case y9 => (intro w' hSw; (try dsimp only at hSw); go_simp; try with_reducible rfl)
    try simp only [Act.put, List.setIfInBounds_toArray, List.set_cons_zero, List.set_cons_succ]
    refine wpAnyH_ready (rs := [9]) (by kernel_rfl) (by simp) ?_
    refine AllReadyH.cons rfl (fun K hK => ?_) AllReadyH.nil
    go_simp
    refine (cg _ (by (repeat' (first | (with_reducible exact Below.refl _ _) | (with_reducible assumption) | (with_reducible refine Below.alloc ?_ ?_ _) | (with_reducible refine Below.drew ?_) | (with_reducible refine below_drewN ?_ _) | (with_reducible refine Below.setCell ?_ ?_ _) | (with_reducible refine Below.trans ?_ (Below.mono (by assumption) ?_)) | (first | omega | (simp only [World.size_alloc, World.size_setCell, World.size_drew]; omega) | (simp; omega) | (simp; done)))))).mono ?_; rintro e w3 ⟨rfl, hb3⟩; have z3 := hb3.size; (try simp only [World.size_alloc, World.size_setCell, World.size_drew] at z3)
    refine hK.out _ _ ?s10 (fun hHeld10 => ?_)
    case s10 => ((try dsimp only); (first | go_keep | (obtain ⟨hq, _⟩ := bcell ‹Below _ _ _›; (repeat' apply And.intro) <;> (rw [hq _ _ (by first | assumption | omega | (simp; done) | (simp; omega) | (simp; assumption))] <;> (first | assumption | (simp [*]; done))))))
    clear hK K hHeld
    have hHeld := hHeld10; clear hHeld10
    try simp only [Act.put, List.setIfInBounds_toArray, List.set_cons_zero, List.set_cons_succ]
    refine wpAnyH_take_d (i := 10) (d := some 8) (v := ?v11) rfl rfl (by kernel_rfl) (by kernel_rfl) (by kernel_rfl) (fun _ _ _ h => h) (Or.inl ⟨by kernel_rfl, ?y11⟩) (by assumption) ?_
    case y11 => (intro w' hSw; (try dsimp only at hSw); go_simp; try with_reducible rfl)
    try simp only [Act.put, List.setIfInBounds_toArray, List.set_cons_zero, List.set_cons_succ]
    refine wpAnyH_done (by kernel_rfl) ?_ _
    refine NoPanic.normal ?_
    have b3 : Below ((((w.alloc (.cells #[.int .i64 n, .slice A m c] 24)).alloc (.cells #[.int .i64 a] 2)).alloc (.cells #[.int .i64 b] 2)).alloc (.cells #[.int .i64 0, .slice none 0 0] 24)).heap.size ((((w.alloc (.cells #[.int .i64 n, .slice A m c] 24)).alloc (.cells #[.int .i64 a] 2)).alloc (.cells #[.int .i64 b] 2)).alloc (.cells #[.int .i64 0, .slice none 0 0] 24)) w3 := by (repeat' (first | (with_reducible exact Below.refl _ _) | (with_reducible assumption) | (with_reducible refine Below.alloc ?_ ?_ _) | (with_reducible refine Below.drew ?_) | (with_reducible refine below_drewN ?_ _) | (with_reducible refine Below.setCell ?_ ?_ _) | (with_reducible refine Below.trans ?_ (Below.mono (by assumption) ?_)) | (first | omega | (simp only [World.size_alloc, World.size_setCell, World.size_drew]; omega) | (simp; omega) | (simp; done))))
    have HZ := Lib.hid ((Blk.new' (n := w.heap.size + 1 + 1 + 1) _ (by simp)).below b3 (by simp) : Blk w3 (w.heap.size + 1 + 1 + 1) 24 #[.int .i64 0, .slice none 0 0])
    have x0 := HZ.out.cellAt 0 _ rfl
    have x1 : (w3.setCell ⟨w.heap.size + 1 + 1 + 1, 0, none⟩ (.int .i64 0)).cell? ⟨w.heap.size + 1 + 1 + 1, 1, none⟩ = some (.slice none 0 0) := (sc_other (by simp)).trans (HZ.out.cellAt 1 _ rfl)
    have f0 := HZ.out.frozen 0
    have f1 := HZ.out.frozen 1
    have Hb1 : Hid (Below w.heap.size w w3) := by show Below _ _ _; exact Below.trans (b := ((((w.alloc (.cells #[.int .i64 n, .slice A m c] 24)).alloc (.cells #[.int .i64 a] 2)).alloc (.cells #[.int .i64 b] 2)).alloc (.cells #[.int .i64 0, .slice none 0 0] 24))) (by (repeat' (first | (with_reducible exact Below.refl _ _) | (with_reducible assumption) | (with_reducible refine Below.alloc ?_ ?_ _) | (with_reducible refine Below.drew ?_) | (with_reducible refine below_drewN ?_ _) | (with_reducible refine Below.setCell ?_ ?_ _) | (with_reducible refine Below.trans ?_ (Below.mono (by assumption) ?_)) | (first | omega | (simp only [World.size_alloc, World.size_setCell, World.size_drew]; omega) | (simp; omega) | (simp; done))))) (b3.mono (by simp; omega))
    clear b3 hb3
    go_wp2
    refine ret_cell_tmp Try.results18 Try.underlying24 rfl (by kernel_rfl) rfl ((HZ.out.set_ 0 (.int .i64 0)).set_ 1 (.slice none 0 0)) rfl rfl ⟨⟨none, 0, rfl, FrE.nil⟩, (Hb1.out.setCell (by show w.heap.size ≤ w.heap.size + 1 + 1 + 1; omega) _).setCell (by show w.heap.size ≤ w.heap.size + 1 + 1 + 1; omega) _⟩
  · have g1 : (a == b) = true := by simpa using hab
    rw [hc] at cg
    clear hc hab
    go_enter Try.func18, Try.ntmps18
    have kb : ((((w.alloc (.cells #[.int .i64 n, .slice A m c] 24)).alloc (.cells #[.int .i64 a] 2)).alloc (.cells #[.int .i64 b] 2)).alloc (.cells #[.int .i64 0, .slice none 0 0] 24)).cell? ⟨w.heap.size + 1 + 1, 0, none⟩ = some (.int .i64 b) := ((Blk.new' (n := w.heap.size + 1 + 1) _ (by simp)).alloc _).cellAt 0 _ rfl
    go_wp2
    refine wp_region_noPanic ?_
    refine wp_region_held_drew (S := (fun w' => w'.cell? ⟨w.heap.size, 0, none⟩ = some (.int .i64 n) ∧ w'.cell? ⟨w.heap.size, 1, none⟩ = some (.slice A m c) ∧ w'.cell? ⟨w.heap.size + 1, 0, none⟩ = some (.int .i64 a) ∧ w'.cell? ⟨w.heap.size + 1 + 1, 0, none⟩ = some (.int .i64 b))) (by kernel_rfl) ?_ (fun hHeld => ?_)
    · (try dsimp only); (first | go_keep | (obtain ⟨hq, _⟩ := bcell ‹Below _ _ _›; (repeat' apply And.intro) <;> (rw [hq _ _ (by first | assumption | omega | (simp; done) | (simp; omega) | (simp; assumption))] <;> (first | assumption | (simp [*]; done)))))
    refine wpAnyH_take_d (i := 0) (d := some 9) (v := ?v12) rfl rfl (by kernel_rfl) (by kernel_rfl) (by kernel_rfl) (fun _ _ _ h => h) (Or.inl ⟨by kernel_rfl, ?y12⟩) (by assumption) ?_
    case y12 => (intro w' hSw; (try dsimp only at hSw); go_simp; try with_reducible rfl)
    try simp only [Act.put, List.setIfInBounds_toArray, List.set_cons_zero, List.set_cons_succ]
    refine wpAnyH_take_d (i := 1) (d := some 10) (v := ?v13) rfl rfl (by kernel_rfl) (by kernel_rfl) (by kernel_rfl) (fun _ _ _ h => h) (Or.inl ⟨by kernel_rfl, ?y13⟩) (by assumption) ?_
    case y13 => (intro w' hSw; (try dsimp only at hSw); go_simp; try with_reducible rfl)
    try simp only [Act.put, List.setIfInBounds_toArray, List.set_cons_zero, List.set_cons_succ]
    refine wpAnyH_take_d (i := 2) (d := some 11) (v := ?v14) rfl rfl (by kernel_rfl) (by kernel_rfl) (by kernel_rfl) (fun _ _ _ h => h) (Or.inl ⟨by kernel_rfl, ?y14⟩) (by assumption) ?_
    case y14 => (intro w' hSw; (try dsimp only at hSw); go_simp; try with_reducible rfl)
    try simp only [Act.put, List.setIfInBounds_toArray, List.set_cons_zero, List.set_cons_succ]
    refine wpAnyH_ready (rs := [3]) (by kernel_rfl) (by simp) ?_
    refine AllReadyH.cons rfl (fun K hK => ?_) AllReadyH.nil
    go_simp
    refine (ca _).mono ?_; rintro e w1 ⟨rfl, hb1⟩; have z1 := hb1.size; (try simp only [World.size_alloc, World.size_setCell, World.size_drew] at z1)
    refine hK.out _ _ ?s15 (fun hHeld15 => ?_)
    case s15 => ((try dsimp only); (first | go_keep | (obtain ⟨hq, _⟩ := bcell ‹Below _ _ _›; (repeat' apply And.intro) <;> (rw [hq _ _ (by first | assumption | omega | (simp; done) | (simp; omega) | (simp; assumption))] <;> (first | assumption | (simp [*]; done))))))
    clear hK K hHeld
    have hHeld := hHeld15; clear hHeld15
    try simp only [Act.put, List.setIfInBounds_toArray, List.set_cons_zero, List.set_cons_succ]
    refine wpAnyH_take_d (i := 4) (d := some 13) (v := ?v16) rfl rfl (by kernel_rfl) (by kernel_rfl) (by kernel_rfl) (fun _ _ _ h => h) (Or.inl ⟨by kernel_rfl, ?y16⟩) (by assumption) ?_
    case y16 => (intro w' hSw; (try dsimp only at hSw); go_simp; try with_reducible rfl)
    try simp only [Act.put, List.setIfInBounds_toArray, List.set_cons_zero, List.set_cons_succ]
    refine wpAnyH_take_d (i := 5) (d := some 14) (v := ?v17) rfl rfl (by kernel_rfl) (by kernel_rfl) (by kernel_rfl) (fun _ _ _ h => h) (Or.inl ⟨by kernel_rfl, ?y17⟩) (by assumption) ?_
    case y17 => (intro w' hSw; (try dsimp only at hSw); go_simp; try with_reducible rfl)
    try simp only [Act.put, List.setIfInBounds_toArray, List.set_cons_zero, List.set_cons_succ]
    refine wpAnyH_take_d (i := 6) (d := some 15) (v := ?v18) rfl rfl (by kernel_rfl) (by kernel_rfl) (by kernel_rfl) (fun _ _ _ h => h) (Or.inl ⟨by kernel_rfl, ?y18⟩) (by assumption) ?_
    case y18 => (intro w' hSw; (try dsimp only at hSw); go_simp; try with_reducible rfl)
    try simp only [Act.put, List.setIfInBounds_toArray, List.set_cons_zero, List.set_cons_succ]
    refine wpAnyH_ready (rs := [7]) (by kernel_rfl) (by simp) ?_
    refine AllReadyH.cons rfl (fun K hK => ?_) AllReadyH.nil
    go_simp
    refine (cb _).mono ?_; rintro e w2 ⟨rfl, hb2⟩; have z2 := hb2.size; (try simp only [World.size_alloc, World.size_setCell, World.size_drew] at z2)
    refine hK.out _ _ ?s19 (fun hHeld19 => ?_)
    case s19 => ((try dsimp only); (first | go_keep | (obtain ⟨hq, _⟩ := bcell ‹Below _ _ _›; (repeat' apply And.intro) <;> (rw [hq _ _ (by first | assumption | omega | (simp; done) | (simp; omega) | (simp; assumption))] <;> (first | assumption | (simp [*]; done))))))
    clear hK K hHeld
    have hHeld := hHeld19; clear hHeld19
    try simp only [Act.put, List.setIfInBounds_toArray, List.set_cons_zero, List.set_cons_succ]
    refine wpAnyH_take_d (i := 8) (d := some 17) (v := ?v20) rfl rfl (by kernel_rfl) (by kernel_rfl) (by kernel_rfl) (fun _ _ _ h => h) (Or.inl ⟨by kernel_rfl, ?y20⟩) (by assumption) ?_
    case y20 => (intro w' hSw; (try dsimp only at hSw); go_simp; try with_reducible rfl)
    try simp only [Act.put, List.setIfInBounds_toArray, List.set_cons_zero, List.set_cons_succ]
    refine wpAnyH_ready (rs := [9]) (by kernel_rfl) (by simp) ?_
    refine AllReadyH.cons rfl (fun K hK => ?_) AllReadyH.nil
    go_simp
    refine (cg _ (by (repeat' (first | (with_reducible exact Below.refl _ _) | (with_reducible assumption) | (with_reducible refine Below.alloc ?_ ?_ _) | (with_reducible refine Below.drew ?_) | (with_reducible refine below_drewN ?_ _) | (with_reducible refine Below.setCell ?_ ?_ _) | (with_reducible refine Below.trans ?_ (Below.mono (by assumption) ?_)) | (first | omega | (simp only [World.size_alloc, World.size_setCell, World.size_drew]; omega) | (simp; omega) | (simp; done)))))).mono ?_; rintro e w3 ⟨rfl, hb3⟩; have z3 := hb3.size; (try simp only [World.size_alloc, World.size_setCell, World.size_drew] at z3)
    refine hK.out _ _ ?s21 (fun hHeld21 => ?_)
    case s21 => ((try dsimp only); (first | go_keep | (obtain ⟨hq, _⟩ := bcell ‹Below _ _ _›; (repeat' apply And.intro) <;> (rw [hq _ _ (by first | assumption | omega | (simp; done) | (simp; omega) | (simp; assumption))] <;> (first | assumption | (simp [*]; done))))))
    clear hK K hHeld
    have hHeld := hHeld21; clear hHeld21
    try simp only [Act.put, List.setIfInBounds_toArray, List.set_cons_zero, List.set_cons_succ]
    refine wpAnyH_take_d (i := 10) (d := some 8) (v := ?v22) rfl rfl (by kernel_rfl) (by kernel_rfl) (by kernel_rfl) (fun _ _ _ h => h) (Or.inl ⟨by kernel_rfl, ?y22⟩) (by assumption) ?_
    case y22 => (intro w' hSw; (try dsimp only at hSw); go_simp; try with_reducible rfl)
    try simp only [Act.put, List.setIfInBounds_toArray, List.set_cons_zero, List.set_cons_succ]
    refine wpAnyH_done (by kernel_rfl) ?_ _
    refine NoPanic.normal ?_
    obtain ⟨_, _, hA, hB⟩ := hHeld
    have b3 : Below ((((w.alloc (.cells #[.int .i64 n, .slice A m c] 24)).alloc (.cells #[.int .i64 a] 2)).alloc (.cells #[.int .i64 b] 2)).alloc (.cells #[.int .i64 0, .slice none 0 0] 24)).heap.size ((((w.alloc (.cells #[.int .i64 n, .slice A m c] 24)).alloc (.cells #[.int .i64 a] 2)).alloc (.cells #[.int .i64 b] 2)).alloc (.cells #[.int .i64 0, .slice none 0 0] 24)) w3 := by (repeat' (first | (with_reducible exact Below.refl _ _) | (with_reducible assumption) | (with_reducible refine Below.alloc ?_ ?_ _) | (with_reducible refine Below.drew ?_) | (with_reducible refine below_drewN ?_ _) | (with_reducible refine Below.setCell ?_ ?_ _) | (with_reducible refine Below.trans ?_ (Below.mono (by assumption) ?_)) | (first | omega | (simp only [World.size_alloc, World.size_setCell, World.size_drew]; omega) | (simp; omega) | (simp; done))))
    have HZ := Lib.hid ((Blk.new' (n := w.heap.size + 1 + 1 + 1) _ (by simp)).below b3 (by simp) : Blk w3 (w.heap.size + 1 + 1 + 1) 24 #[.int .i64 0, .slice none 0 0])
    have x0 := HZ.out.cellAt 0 _ rfl
    have x1 : (w3.setCell ⟨w.heap.size + 1 + 1 + 1, 0, none⟩ (.int .i64 0)).cell? ⟨w.heap.size + 1 + 1 + 1, 1, none⟩ = some (.slice none 0 0) := (sc_other (by simp)).trans (HZ.out.cellAt 1 _ rfl)
    have f0 := HZ.out.frozen 0
    have f1 := HZ.out.frozen 1
    have Hb1 : Hid (Below w.heap.size w w3) := by show Below _ _ _; exact Below.trans (b := ((((w.alloc (.cells #[.int .i64 n, .slice A m c] 24)).alloc (.cells #[.int .i64 a] 2)).alloc (.cells #[.int .i64 b] 2)).alloc (.cells #[.int .i64 0, .slice none 0 0] 24))) (by (repeat' (first | (with_reducible exact Below.refl _ _) | (with_reducible assumption) | (with_reducible refine Below.alloc ?_ ?_ _) | (with_reducible refine Below.drew ?_) | (with_reducible refine below_drewN ?_ _) | (with_reducible refine Below.setCell ?_ ?_ _) | (with_reducible refine Below.trans ?_ (Below.mono (by assumption) ?_)) | (first | omega | (simp only [World.size_alloc, World.size_setCell, World.size_drew]; omega) | (simp; omega) | (simp; done))))) (b3.mono (by simp; omega))
    clear b3 hb3
    go_wp2
    refine ret_cell_tmp Try.results18 Try.underlying24 rfl (by kernel_rfl) rfl ((HZ.out.set_ 0 (.int .i64 0)).set_ 1 (.slice none 0 0)) rfl rfl ⟨⟨none, 0, rfl, FrE.nil⟩, (Hb1.out.setCell (by show w.heap.size ≤ w.heap.size + 1 + 1 + 1; omega) _).setCell (by show w.heap.size ≤ w.heap.size + 1 + 1 + 1; omega) _⟩
set_option maxHeartbeats 4000000 in
/-- The errors. -/
theorem implBridge_errfalse (n : Int) (A : Option Addr) (c : Nat) (es : List (Int × Int)) (a b : Int) (w : World) (hl : es.length ≤ 1048576) (hr : RdE w A es) (v : Int) (qg qb : Bool) (hq : Hid (isGraphB n es = qg)) (ha : Hid (inB a 0 ((es.length : Int) - 1) = false)) (hb : Hid (inB b 0 ((es.length : Int) - 1) = qb))
    (h : (gcode qg (false && qb) = v ∧ v ≠ 0) ∨ (gcode qg (false && qb) = 0 ∧ a = b ∧ v = 5)) :
    Calls Try.prog 18 #[.agg #[.int .i64 n, .slice A es.length c], .int .i64 a, .int .i64 b] w fun e w' => RetG w' w.heap.size e 0 [] v ∧ Below w.heap.size w w' := by
  have ca := fun W => isEdge_b n A es.length c a W false ha hl
  have cb := fun W => isEdge_b n A es.length c b W qb hb hl
  have cg := fun W (hW : Below w.heap.size w W) => graphCode_b n A c es W qg (false && qb) hq hl (hr.below hW)
  clear hr hq ha hb
  generalize es.length = m at *
  rcases h with ⟨hc, hv0⟩ | ⟨hc, hab, rfl⟩
  · have g1 : (v != 0) = true := by simpa using hv0
    rw [hc] at cg
    clear hc hv0
    go_enter Try.func18, Try.ntmps18
    have kb : ((((w.alloc (.cells #[.int .i64 n, .slice A m c] 24)).alloc (.cells #[.int .i64 a] 2)).alloc (.cells #[.int .i64 b] 2)).alloc (.cells #[.int .i64 0, .slice none 0 0] 24)).cell? ⟨w.heap.size + 1 + 1, 0, none⟩ = some (.int .i64 b) := ((Blk.new' (n := w.heap.size + 1 + 1) _ (by simp)).alloc _).cellAt 0 _ rfl
    go_wp2
    refine wp_region_noPanic ?_
    refine wp_region_held_drew (S := (fun w' => w'.cell? ⟨w.heap.size, 0, none⟩ = some (.int .i64 n) ∧ w'.cell? ⟨w.heap.size, 1, none⟩ = some (.slice A m c) ∧ w'.cell? ⟨w.heap.size + 1, 0, none⟩ = some (.int .i64 a) ∧ w'.cell? ⟨w.heap.size + 1 + 1, 0, none⟩ = some (.int .i64 b))) (by kernel_rfl) ?_ (fun hHeld => ?_)
    · (try dsimp only); (first | go_keep | (obtain ⟨hq, _⟩ := bcell ‹Below _ _ _›; (repeat' apply And.intro) <;> (rw [hq _ _ (by first | assumption | omega | (simp; done) | (simp; omega) | (simp; assumption))] <;> (first | assumption | (simp [*]; done)))))
    refine wpAnyH_take_d (i := 0) (d := some 9) (v := ?v23) rfl rfl (by kernel_rfl) (by kernel_rfl) (by kernel_rfl) (fun _ _ _ h => h) (Or.inl ⟨by kernel_rfl, ?y23⟩) (by assumption) ?_
    case y23 => (intro w' hSw; (try dsimp only at hSw); go_simp; try with_reducible rfl)
    try simp only [Act.put, List.setIfInBounds_toArray, List.set_cons_zero, List.set_cons_succ]
    refine wpAnyH_take_d (i := 1) (d := some 10) (v := ?v24) rfl rfl (by kernel_rfl) (by kernel_rfl) (by kernel_rfl) (fun _ _ _ h => h) (Or.inl ⟨by kernel_rfl, ?y24⟩) (by assumption) ?_
    case y24 => (intro w' hSw; (try dsimp only at hSw); go_simp; try with_reducible rfl)
    try simp only [Act.put, List.setIfInBounds_toArray, List.set_cons_zero, List.set_cons_succ]
    refine wpAnyH_take_d (i := 2) (d := some 11) (v := ?v25) rfl rfl (by kernel_rfl) (by kernel_rfl) (by kernel_rfl) (fun _ _ _ h => h) (Or.inl ⟨by kernel_rfl, ?y25⟩) (by assumption) ?_
    case y25 => (intro w' hSw; (try dsimp only at hSw); go_simp; try with_reducible rfl)
    try simp only [Act.put, List.setIfInBounds_toArray, List.set_cons_zero, List.set_cons_succ]
    refine wpAnyH_ready (rs := [3]) (by kernel_rfl) (by simp) ?_
    refine AllReadyH.cons rfl (fun K hK => ?_) AllReadyH.nil
    go_simp
    refine (ca _).mono ?_; rintro e w1 ⟨rfl, hb1⟩; have z1 := hb1.size; (try simp only [World.size_alloc, World.size_setCell, World.size_drew] at z1)
    refine hK.out _ _ ?s26 (fun hHeld26 => ?_)
    case s26 => ((try dsimp only); (first | go_keep | (obtain ⟨hq, _⟩ := bcell ‹Below _ _ _›; (repeat' apply And.intro) <;> (rw [hq _ _ (by first | assumption | omega | (simp; done) | (simp; omega) | (simp; assumption))] <;> (first | assumption | (simp [*]; done))))))
    clear hK K hHeld
    have hHeld := hHeld26; clear hHeld26
    try simp only [Act.put, List.setIfInBounds_toArray, List.set_cons_zero, List.set_cons_succ]
    refine wpAnyH_take_d (i := 4) (d := some 13) (v := ?v27) rfl rfl (by kernel_rfl) (by kernel_rfl) (by kernel_rfl) (fun _ _ _ h => h) (Or.inl ⟨by kernel_rfl, ?y27⟩) (by assumption) ?_
    case y27 => (intro w' hSw; (try dsimp only at hSw); go_simp; try with_reducible rfl)
    try simp only [Act.put, List.setIfInBounds_toArray, List.set_cons_zero, List.set_cons_succ]
    refine wpAnyH_take_d (i := 5) (d := some 14) (v := undef) rfl rfl (by kernel_rfl) (by kernel_rfl) (by kernel_rfl) (fun _ _ _ h => h) (Or.inr ⟨by kernel_rfl, rfl⟩) (by assumption) ?_
    try simp only [Act.put, List.setIfInBounds_toArray, List.set_cons_zero, List.set_cons_succ]
    refine wpAnyH_take_d (i := 6) (d := some 15) (v := undef) rfl rfl (by kernel_rfl) (by kernel_rfl) (by kernel_rfl) (fun _ _ _ h => h) (Or.inr ⟨by kernel_rfl, rfl⟩) (by assumption) ?_
    try simp only [Act.put, List.setIfInBounds_toArray, List.set_cons_zero, List.set_cons_succ]
    refine wpAnyH_take_d (i := 7) (d := some 16) (v := undef) rfl rfl (by kernel_rfl) (by kernel_rfl) (by kernel_rfl) (fun _ _ _ h => h) (Or.inr ⟨by kernel_rfl, rfl⟩) (by assumption) ?_
    try simp only [Act.put, List.setIfInBounds_toArray, List.set_cons_zero, List.set_cons_succ]
    refine wpAnyH_take_d (i := 8) (d := some 17) (v := ?v31) rfl rfl (by kernel_rfl) (by kernel_rfl) (by kernel_rfl) (fun _ _ _ h => h) (Or.inl ⟨by kernel_rfl, ?y31⟩) (by assumption) ?_
    case y31 => (intro w' hSw; (try dsimp only at hSw); go_simp; try with_reducible rfl)
    try simp only [Act.put, List.setIfInBounds_toArray, List.set_cons_zero, List.set_cons_succ]
    refine wpAnyH_ready (rs := [9]) (by kernel_rfl) (by simp) ?_
    refine AllReadyH.cons rfl (fun K hK => ?_) AllReadyH.nil
    go_simp
    refine (cg _ (by (repeat' (first | (with_reducible exact Below.refl _ _) | (with_reducible assumption) | (with_reducible refine Below.alloc ?_ ?_ _) | (with_reducible refine Below.drew ?_) | (with_reducible refine below_drewN ?_ _) | (with_reducible refine Below.setCell ?_ ?_ _) | (with_reducible refine Below.trans ?_ (Below.mono (by assumption) ?_)) | (first | omega | (simp only [World.size_alloc, World.size_setCell, World.size_drew]; omega) | (simp; omega) | (simp; done)))))).mono ?_; rintro e w3 ⟨rfl, hb3⟩; have z3 := hb3.size; (try simp only [World.size_alloc, World.size_setCell, World.size_drew] at z3)
    refine hK.out _ _ ?s32 (fun hHeld32 => ?_)
    case s32 => ((try dsimp only); (first | go_keep | (obtain ⟨hq, _⟩ := bcell ‹Below _ _ _›; (repeat' apply And.intro) <;> (rw [hq _ _ (by first | assumption | omega | (simp; done) | (simp; omega) | (simp; assumption))] <;> (first | assumption | (simp [*]; done))))))
    clear hK K hHeld
    have hHeld := hHeld32; clear hHeld32
    try simp only [Act.put, List.setIfInBounds_toArray, List.set_cons_zero, List.set_cons_succ]
    refine wpAnyH_take_d (i := 10) (d := some 8) (v := ?v33) rfl rfl (by kernel_rfl) (by kernel_rfl) (by kernel_rfl) (fun _ _ _ h => h) (Or.inl ⟨by kernel_rfl, ?y33⟩) (by assumption) ?_
    case y33 => (intro w' hSw; (try dsimp only at hSw); go_simp; try with_reducible rfl)
    try simp only [Act.put, List.setIfInBounds_toArray, List.set_cons_zero, List.set_cons_succ]
    refine wpAnyH_done (by kernel_rfl) ?_ _
    refine NoPanic.normal ?_
    have b3 : Below ((((w.alloc (.cells #[.int .i64 n, .slice A m c] 24)).alloc (.cells #[.int .i64 a] 2)).alloc (.cells #[.int .i64 b] 2)).alloc (.cells #[.int .i64 0, .slice none 0 0] 24)).heap.size ((((w.alloc (.cells #[.int .i64 n, .slice A m c] 24)).alloc (.cells #[.int .i64 a] 2)).alloc (.cells #[.int .i64 b] 2)).alloc (.cells #[.int .i64 0, .slice none 0 0] 24)) w3 := by (repeat' (first | (with_reducible exact Below.refl _ _) | (with_reducible assumption) | (with_reducible refine Below.alloc ?_ ?_ _) | (with_reducible refine Below.drew ?_) | (with_reducible refine below_drewN ?_ _) | (with_reducible refine Below.setCell ?_ ?_ _) | (with_reducible refine Below.trans ?_ (Below.mono (by assumption) ?_)) | (first | omega | (simp only [World.size_alloc, World.size_setCell, World.size_drew]; omega) | (simp; omega) | (simp; done))))
    have HZ := Lib.hid ((Blk.new' (n := w.heap.size + 1 + 1 + 1) _ (by simp)).below b3 (by simp) : Blk w3 (w.heap.size + 1 + 1 + 1) 24 #[.int .i64 0, .slice none 0 0])
    have x0 := HZ.out.cellAt 0 _ rfl
    have x1 : (w3.setCell ⟨w.heap.size + 1 + 1 + 1, 0, none⟩ (.int .i64 0)).cell? ⟨w.heap.size + 1 + 1 + 1, 1, none⟩ = some (.slice none 0 0) := (sc_other (by simp)).trans (HZ.out.cellAt 1 _ rfl)
    have f0 := HZ.out.frozen 0
    have f1 := HZ.out.frozen 1
    have Hb1 : Hid (Below w.heap.size w w3) := by show Below _ _ _; exact Below.trans (b := ((((w.alloc (.cells #[.int .i64 n, .slice A m c] 24)).alloc (.cells #[.int .i64 a] 2)).alloc (.cells #[.int .i64 b] 2)).alloc (.cells #[.int .i64 0, .slice none 0 0] 24))) (by (repeat' (first | (with_reducible exact Below.refl _ _) | (with_reducible assumption) | (with_reducible refine Below.alloc ?_ ?_ _) | (with_reducible refine Below.drew ?_) | (with_reducible refine below_drewN ?_ _) | (with_reducible refine Below.setCell ?_ ?_ _) | (with_reducible refine Below.trans ?_ (Below.mono (by assumption) ?_)) | (first | omega | (simp only [World.size_alloc, World.size_setCell, World.size_drew]; omega) | (simp; omega) | (simp; done))))) (b3.mono (by simp; omega))
    clear b3 hb3
    go_wp2
    refine ret_cell_tmp Try.results18 Try.underlying24 rfl (by kernel_rfl) rfl ((HZ.out.set_ 0 (.int .i64 0)).set_ 1 (.slice none 0 0)) rfl rfl ⟨⟨none, 0, rfl, FrE.nil⟩, (Hb1.out.setCell (by show w.heap.size ≤ w.heap.size + 1 + 1 + 1; omega) _).setCell (by show w.heap.size ≤ w.heap.size + 1 + 1 + 1; omega) _⟩
  · have g1 : (a == b) = true := by simpa using hab
    rw [hc] at cg
    clear hc hab
    go_enter Try.func18, Try.ntmps18
    have kb : ((((w.alloc (.cells #[.int .i64 n, .slice A m c] 24)).alloc (.cells #[.int .i64 a] 2)).alloc (.cells #[.int .i64 b] 2)).alloc (.cells #[.int .i64 0, .slice none 0 0] 24)).cell? ⟨w.heap.size + 1 + 1, 0, none⟩ = some (.int .i64 b) := ((Blk.new' (n := w.heap.size + 1 + 1) _ (by simp)).alloc _).cellAt 0 _ rfl
    go_wp2
    refine wp_region_noPanic ?_
    refine wp_region_held_drew (S := (fun w' => w'.cell? ⟨w.heap.size, 0, none⟩ = some (.int .i64 n) ∧ w'.cell? ⟨w.heap.size, 1, none⟩ = some (.slice A m c) ∧ w'.cell? ⟨w.heap.size + 1, 0, none⟩ = some (.int .i64 a) ∧ w'.cell? ⟨w.heap.size + 1 + 1, 0, none⟩ = some (.int .i64 b))) (by kernel_rfl) ?_ (fun hHeld => ?_)
    · (try dsimp only); (first | go_keep | (obtain ⟨hq, _⟩ := bcell ‹Below _ _ _›; (repeat' apply And.intro) <;> (rw [hq _ _ (by first | assumption | omega | (simp; done) | (simp; omega) | (simp; assumption))] <;> (first | assumption | (simp [*]; done)))))
    refine wpAnyH_take_d (i := 0) (d := some 9) (v := ?v34) rfl rfl (by kernel_rfl) (by kernel_rfl) (by kernel_rfl) (fun _ _ _ h => h) (Or.inl ⟨by kernel_rfl, ?y34⟩) (by assumption) ?_
    case y34 => (intro w' hSw; (try dsimp only at hSw); go_simp; try with_reducible rfl)
    try simp only [Act.put, List.setIfInBounds_toArray, List.set_cons_zero, List.set_cons_succ]
    refine wpAnyH_take_d (i := 1) (d := some 10) (v := ?v35) rfl rfl (by kernel_rfl) (by kernel_rfl) (by kernel_rfl) (fun _ _ _ h => h) (Or.inl ⟨by kernel_rfl, ?y35⟩) (by assumption) ?_
    case y35 => (intro w' hSw; (try dsimp only at hSw); go_simp; try with_reducible rfl)
    try simp only [Act.put, List.setIfInBounds_toArray, List.set_cons_zero, List.set_cons_succ]
    refine wpAnyH_take_d (i := 2) (d := some 11) (v := ?v36) rfl rfl (by kernel_rfl) (by kernel_rfl) (by kernel_rfl) (fun _ _ _ h => h) (Or.inl ⟨by kernel_rfl, ?y36⟩) (by assumption) ?_
    case y36 => (intro w' hSw; (try dsimp only at hSw); go_simp; try with_reducible rfl)
    try simp only [Act.put, List.setIfInBounds_toArray, List.set_cons_zero, List.set_cons_succ]
    refine wpAnyH_ready (rs := [3]) (by kernel_rfl) (by simp) ?_
    refine AllReadyH.cons rfl (fun K hK => ?_) AllReadyH.nil
    go_simp
    refine (ca _).mono ?_; rintro e w1 ⟨rfl, hb1⟩; have z1 := hb1.size; (try simp only [World.size_alloc, World.size_setCell, World.size_drew] at z1)
    refine hK.out _ _ ?s37 (fun hHeld37 => ?_)
    case s37 => ((try dsimp only); (first | go_keep | (obtain ⟨hq, _⟩ := bcell ‹Below _ _ _›; (repeat' apply And.intro) <;> (rw [hq _ _ (by first | assumption | omega | (simp; done) | (simp; omega) | (simp; assumption))] <;> (first | assumption | (simp [*]; done))))))
    clear hK K hHeld
    have hHeld := hHeld37; clear hHeld37
    try simp only [Act.put, List.setIfInBounds_toArray, List.set_cons_zero, List.set_cons_succ]
    refine wpAnyH_take_d (i := 4) (d := some 13) (v := ?v38) rfl rfl (by kernel_rfl) (by kernel_rfl) (by kernel_rfl) (fun _ _ _ h => h) (Or.inl ⟨by kernel_rfl, ?y38⟩) (by assumption) ?_
    case y38 => (intro w' hSw; (try dsimp only at hSw); go_simp; try with_reducible rfl)
    try simp only [Act.put, List.setIfInBounds_toArray, List.set_cons_zero, List.set_cons_succ]
    refine wpAnyH_take_d (i := 5) (d := some 14) (v := undef) rfl rfl (by kernel_rfl) (by kernel_rfl) (by kernel_rfl) (fun _ _ _ h => h) (Or.inr ⟨by kernel_rfl, rfl⟩) (by assumption) ?_
    try simp only [Act.put, List.setIfInBounds_toArray, List.set_cons_zero, List.set_cons_succ]
    refine wpAnyH_take_d (i := 6) (d := some 15) (v := undef) rfl rfl (by kernel_rfl) (by kernel_rfl) (by kernel_rfl) (fun _ _ _ h => h) (Or.inr ⟨by kernel_rfl, rfl⟩) (by assumption) ?_
    try simp only [Act.put, List.setIfInBounds_toArray, List.set_cons_zero, List.set_cons_succ]
    refine wpAnyH_take_d (i := 7) (d := some 16) (v := undef) rfl rfl (by kernel_rfl) (by kernel_rfl) (by kernel_rfl) (fun _ _ _ h => h) (Or.inr ⟨by kernel_rfl, rfl⟩) (by assumption) ?_
    try simp only [Act.put, List.setIfInBounds_toArray, List.set_cons_zero, List.set_cons_succ]
    refine wpAnyH_take_d (i := 8) (d := some 17) (v := ?v42) rfl rfl (by kernel_rfl) (by kernel_rfl) (by kernel_rfl) (fun _ _ _ h => h) (Or.inl ⟨by kernel_rfl, ?y42⟩) (by assumption) ?_
    case y42 => (intro w' hSw; (try dsimp only at hSw); go_simp; try with_reducible rfl)
    try simp only [Act.put, List.setIfInBounds_toArray, List.set_cons_zero, List.set_cons_succ]
    refine wpAnyH_ready (rs := [9]) (by kernel_rfl) (by simp) ?_
    refine AllReadyH.cons rfl (fun K hK => ?_) AllReadyH.nil
    go_simp
    refine (cg _ (by (repeat' (first | (with_reducible exact Below.refl _ _) | (with_reducible assumption) | (with_reducible refine Below.alloc ?_ ?_ _) | (with_reducible refine Below.drew ?_) | (with_reducible refine below_drewN ?_ _) | (with_reducible refine Below.setCell ?_ ?_ _) | (with_reducible refine Below.trans ?_ (Below.mono (by assumption) ?_)) | (first | omega | (simp only [World.size_alloc, World.size_setCell, World.size_drew]; omega) | (simp; omega) | (simp; done)))))).mono ?_; rintro e w3 ⟨rfl, hb3⟩; have z3 := hb3.size; (try simp only [World.size_alloc, World.size_setCell, World.size_drew] at z3)
    refine hK.out _ _ ?s43 (fun hHeld43 => ?_)
    case s43 => ((try dsimp only); (first | go_keep | (obtain ⟨hq, _⟩ := bcell ‹Below _ _ _›; (repeat' apply And.intro) <;> (rw [hq _ _ (by first | assumption | omega | (simp; done) | (simp; omega) | (simp; assumption))] <;> (first | assumption | (simp [*]; done))))))
    clear hK K hHeld
    have hHeld := hHeld43; clear hHeld43
    try simp only [Act.put, List.setIfInBounds_toArray, List.set_cons_zero, List.set_cons_succ]
    refine wpAnyH_take_d (i := 10) (d := some 8) (v := ?v44) rfl rfl (by kernel_rfl) (by kernel_rfl) (by kernel_rfl) (fun _ _ _ h => h) (Or.inl ⟨by kernel_rfl, ?y44⟩) (by assumption) ?_
    case y44 => (intro w' hSw; (try dsimp only at hSw); go_simp; try with_reducible rfl)
    try simp only [Act.put, List.setIfInBounds_toArray, List.set_cons_zero, List.set_cons_succ]
    refine wpAnyH_done (by kernel_rfl) ?_ _
    refine NoPanic.normal ?_
    obtain ⟨_, _, hA, hB⟩ := hHeld
    have b3 : Below ((((w.alloc (.cells #[.int .i64 n, .slice A m c] 24)).alloc (.cells #[.int .i64 a] 2)).alloc (.cells #[.int .i64 b] 2)).alloc (.cells #[.int .i64 0, .slice none 0 0] 24)).heap.size ((((w.alloc (.cells #[.int .i64 n, .slice A m c] 24)).alloc (.cells #[.int .i64 a] 2)).alloc (.cells #[.int .i64 b] 2)).alloc (.cells #[.int .i64 0, .slice none 0 0] 24)) w3 := by (repeat' (first | (with_reducible exact Below.refl _ _) | (with_reducible assumption) | (with_reducible refine Below.alloc ?_ ?_ _) | (with_reducible refine Below.drew ?_) | (with_reducible refine below_drewN ?_ _) | (with_reducible refine Below.setCell ?_ ?_ _) | (with_reducible refine Below.trans ?_ (Below.mono (by assumption) ?_)) | (first | omega | (simp only [World.size_alloc, World.size_setCell, World.size_drew]; omega) | (simp; omega) | (simp; done))))
    have HZ := Lib.hid ((Blk.new' (n := w.heap.size + 1 + 1 + 1) _ (by simp)).below b3 (by simp) : Blk w3 (w.heap.size + 1 + 1 + 1) 24 #[.int .i64 0, .slice none 0 0])
    have x0 := HZ.out.cellAt 0 _ rfl
    have x1 : (w3.setCell ⟨w.heap.size + 1 + 1 + 1, 0, none⟩ (.int .i64 0)).cell? ⟨w.heap.size + 1 + 1 + 1, 1, none⟩ = some (.slice none 0 0) := (sc_other (by simp)).trans (HZ.out.cellAt 1 _ rfl)
    have f0 := HZ.out.frozen 0
    have f1 := HZ.out.frozen 1
    have Hb1 : Hid (Below w.heap.size w w3) := by show Below _ _ _; exact Below.trans (b := ((((w.alloc (.cells #[.int .i64 n, .slice A m c] 24)).alloc (.cells #[.int .i64 a] 2)).alloc (.cells #[.int .i64 b] 2)).alloc (.cells #[.int .i64 0, .slice none 0 0] 24))) (by (repeat' (first | (with_reducible exact Below.refl _ _) | (with_reducible assumption) | (with_reducible refine Below.alloc ?_ ?_ _) | (with_reducible refine Below.drew ?_) | (with_reducible refine below_drewN ?_ _) | (with_reducible refine Below.setCell ?_ ?_ _) | (with_reducible refine Below.trans ?_ (Below.mono (by assumption) ?_)) | (first | omega | (simp only [World.size_alloc, World.size_setCell, World.size_drew]; omega) | (simp; omega) | (simp; done))))) (b3.mono (by simp; omega))
    clear b3 hb3
    go_wp2
    refine ret_cell_tmp Try.results18 Try.underlying24 rfl (by kernel_rfl) rfl ((HZ.out.set_ 0 (.int .i64 0)).set_ 1 (.slice none 0 0)) rfl rfl ⟨⟨none, 0, rfl, FrE.nil⟩, (Hb1.out.setCell (by show w.heap.size ≤ w.heap.size + 1 + 1 + 1; omega) _).setCell (by show w.heap.size ≤ w.heap.size + 1 + 1 + 1; omega) _⟩
end Go.Proofs.Ytblidpodbpoaeaa
namespace Go.Proofs.Ytblidpodbpoaeaa
open Go.RowKit
set_option linter.unusedSimpArgs false
set_option linter.unusedVariables false
set_option maxRecDepth 20000

set_option maxHeartbeats 4000000 in
/-- The graph. -/
theorem implBridge_yes (n : Int) (A : Option Addr) (c : Nat) (es : List (Int × Int)) (a b : Int) (w : World) (hl : es.length ≤ 1000) (hr : RdE w A es) (hq : Hid (isGraphB n es = true)) (ha : Hid (inB a 0 ((es.length : Int) - 1) = true)) (hb : Hid (inB b 0 ((es.length : Int) - 1) = true)) (hab : a ≠ b) (hn : 2 ≤ n ∧ n ≤ 20)
    (N : Int) (rs : List (Int × Int)) (v : Int) (R0 : Hid ((limV (n + 2) (brL false n a b es es.length)).1 = N)) (R1 : Hid ((limV (n + 2) (brL false n a b es es.length)).2.1 = rs)) (R2 : Hid ((limV (n + 2) (brL false n a b es es.length)).2.2 = v)) :
    Calls Try.prog 18 #[.agg #[.int .i64 n, .slice A es.length c], .int .i64 a, .int .i64 b] w fun e w' => RetG w' w.heap.size e N rs v ∧ Below w.heap.size w w' := by
  have hmf : ∀ (fn : Fn) (first cap : Array Value) (w : World), (Instr.makeFunc fn first cap).run Try.prog w = .ok (.func fn first cap) w := fun _ _ _ _ => rfl
  have ca := fun W => isEdge_b n A es.length c a W true ha (by omega)
  have cb := fun W => isEdge_b n A es.length c b W true hb (by omega)
  have cg := fun W (hW : Below w.heap.size w W) => graphCode_b n A c es W true (true && true) hq (by omega) (hr.below hW)
  have hlen := brL_len false n a b es es.length
  have cl := Lib.hid fun W lb hp => limited_b (n + 2) 45 lb (brL false n a b es es.length) W ent_bridge1 hlen.1 (by omega) hp
  simp only [R0.out, R1.out, R2.out] at cl
  have cf := Lib.hid fun (h : n + 2 ≤ 20) (gg ga gb : Nat) (W : World) (hW : Below w.heap.size w W) => bridge1_b gg ga gb n A c es a b W (by omega) (hr.below hW) hab ⟨hn.1, h⟩
  have g1 : (a == b) = false := by simpa using hab
  obtain ⟨M, HM⟩ : ∃ M, Hid (rs.length = M) := ⟨_, rfl⟩
  rw [show gcode true (true && true) = 0 from rfl] at cg
  have p2 : wrap64 (n + 2) = n + 2 := wrap64_small (by omega) (by omega)
  clear hr hq ha hb hab R0 R1 R2 hlen hn
  generalize brL false n a b es es.length = X at *
  generalize es.length = m at *
  have kb : ((((w.alloc (.cells #[.int .i64 n, .slice A m c] 24)).alloc (.cells #[.int .i64 a] 2)).alloc (.cells #[.int .i64 b] 2)).alloc (.cells #[.int .i64 0, .slice none 0 0] 24)).cell? ⟨w.heap.size + 1 + 1, 0, none⟩ = some (.int .i64 b) := ((Blk.new' (n := w.heap.size + 1 + 1) _ (by simp)).alloc _).cellAt 0 _ rfl
  go_enter Try.func18, Try.ntmps18
  go_wp2
  refine wp_region_noPanic ?_
  refine wp_region_held_drew (S := (fun w' => w'.cell? ⟨w.heap.size, 0, none⟩ = some (.int .i64 n) ∧ w'.cell? ⟨w.heap.size, 1, none⟩ = some (.slice A m c) ∧ w'.cell? ⟨w.heap.size + 1, 0, none⟩ = some (.int .i64 a) ∧ w'.cell? ⟨w.heap.size + 1 + 1, 0, none⟩ = some (.int .i64 b))) (by kernel_rfl) ?_ (fun hHeld => ?_)
  · (try dsimp only); (first | go_keep | (obtain ⟨hq, _⟩ := bcell ‹Below _ _ _›; (repeat' apply And.intro) <;> (rw [hq _ _ (by first | assumption | omega | (simp; done) | (simp; omega) | (simp; assumption))] <;> (first | assumption | (simp [*]; done)))))
  refine wpAnyH_take_d (i := 0) (d := some 9) (v := ?v45) rfl rfl (by kernel_rfl) (by kernel_rfl) (by kernel_rfl) (fun _ _ _ h => h) (Or.inl ⟨by kernel_rfl, ?y45⟩) (by assumption) ?_
  case y45 => (intro w' hSw; (try dsimp only at hSw); go_simp; try with_reducible rfl)
  try simp only [Act.put, List.setIfInBounds_toArray, List.set_cons_zero, List.set_cons_succ]
  refine wpAnyH_take_d (i := 1) (d := some 10) (v := ?v46) rfl rfl (by kernel_rfl) (by kernel_rfl) (by kernel_rfl) (fun _ _ _ h => h) (Or.inl ⟨by kernel_rfl, ?y46⟩) (by assumption) ?_
  case y46 => (intro w' hSw; (try dsimp only at hSw); go_simp; try with_reducible rfl)
  try simp only [Act.put, List.setIfInBounds_toArray, List.set_cons_zero, List.set_cons_succ]
  refine wpAnyH_take_d (i := 2) (d := some 11) (v := ?v47) rfl rfl (by kernel_rfl) (by kernel_rfl) (by kernel_rfl) (fun _ _ _ h => h) (Or.inl ⟨by kernel_rfl, ?y47⟩) (by assumption) ?_
  case y47 => (intro w' hSw; (try dsimp only at hSw); go_simp; try with_reducible rfl)
  try simp only [Act.put, List.setIfInBounds_toArray, List.set_cons_zero, List.set_cons_succ]
  refine wpAnyH_ready (rs := [3]) (by kernel_rfl) (by simp) ?_
  refine AllReadyH.cons rfl (fun K hK => ?_) AllReadyH.nil
  go_simp
  refine (ca _).mono ?_; rintro e w1 ⟨rfl, hb1⟩; have z1 := hb1.size; (try simp only [World.size_alloc, World.size_setCell, World.size_drew] at z1)
  refine hK.out _ _ ?s48 (fun hHeld48 => ?_)
  case s48 => ((try dsimp only); (first | go_keep | (obtain ⟨hq, _⟩ := bcell ‹Below _ _ _›; (repeat' apply And.intro) <;> (rw [hq _ _ (by first | assumption | omega | (simp; done) | (simp; omega) | (simp; assumption))] <;> (first | assumption | (simp [*]; done))))))
  clear hK K hHeld
  have hHeld := hHeld48; clear hHeld48
  try simp only [Act.put, List.setIfInBounds_toArray, List.set_cons_zero, List.set_cons_succ]
  refine wpAnyH_take_d (i := 4) (d := some 13) (v := ?v49) rfl rfl (by kernel_rfl) (by kernel_rfl) (by kernel_rfl) (fun _ _ _ h => h) (Or.inl ⟨by kernel_rfl, ?y49⟩) (by assumption) ?_
  case y49 => (intro w' hSw; (try dsimp only at hSw); go_simp; try with_reducible rfl)
  try simp only [Act.put, List.setIfInBounds_toArray, List.set_cons_zero, List.set_cons_succ]
  refine wpAnyH_take_d (i := 5) (d := some 14) (v := ?v50) rfl rfl (by kernel_rfl) (by kernel_rfl) (by kernel_rfl) (fun _ _ _ h => h) (Or.inl ⟨by kernel_rfl, ?y50⟩) (by assumption) ?_
  case y50 => (intro w' hSw; (try dsimp only at hSw); go_simp; try with_reducible rfl)
  try simp only [Act.put, List.setIfInBounds_toArray, List.set_cons_zero, List.set_cons_succ]
  refine wpAnyH_take_d (i := 6) (d := some 15) (v := ?v51) rfl rfl (by kernel_rfl) (by kernel_rfl) (by kernel_rfl) (fun _ _ _ h => h) (Or.inl ⟨by kernel_rfl, ?y51⟩) (by assumption) ?_
  case y51 => (intro w' hSw; (try dsimp only at hSw); go_simp; try with_reducible rfl)
  try simp only [Act.put, List.setIfInBounds_toArray, List.set_cons_zero, List.set_cons_succ]
  refine wpAnyH_ready (rs := [7]) (by kernel_rfl) (by simp) ?_
  refine AllReadyH.cons rfl (fun K hK => ?_) AllReadyH.nil
  go_simp
  refine (cb _).mono ?_; rintro e w2 ⟨rfl, hb2⟩; have z2 := hb2.size; (try simp only [World.size_alloc, World.size_setCell, World.size_drew] at z2)
  refine hK.out _ _ ?s52 (fun hHeld52 => ?_)
  case s52 => ((try dsimp only); (first | go_keep | (obtain ⟨hq, _⟩ := bcell ‹Below _ _ _›; (repeat' apply And.intro) <;> (rw [hq _ _ (by first | assumption | omega | (simp; done) | (simp; omega) | (simp; assumption))] <;> (first | assumption | (simp [*]; done))))))
  clear hK K hHeld
  have hHeld := hHeld52; clear hHeld52
  try simp only [Act.put, List.setIfInBounds_toArray, List.set_cons_zero, List.set_cons_succ]
  refine wpAnyH_take_d (i := 8) (d := some 17) (v := ?v53) rfl rfl (by kernel_rfl) (by kernel_rfl) (by kernel_rfl) (fun _ _ _ h => h) (Or.inl ⟨by kernel_rfl, ?y53⟩) (by assumption) ?_
  case y53 => (intro w' hSw; (try dsimp only at hSw); go_simp; try with_reducible rfl)
  try simp only [Act.put, List.setIfInBounds_toArray, List.set_cons_zero, List.set_cons_succ]
  refine wpAnyH_ready (rs := [9]) (by kernel_rfl) (by simp) ?_
  refine AllReadyH.cons rfl (fun K hK => ?_) AllReadyH.nil
  go_simp
  refine (cg _ (by (repeat' (first | (with_reducible exact Below.refl _ _) | (with_reducible assumption) | (with_reducible refine Below.alloc ?_ ?_ _) | (with_reducible refine Below.drew ?_) | (with_reducible refine below_drewN ?_ _) | (with_reducible refine Below.setCell ?_ ?_ _) | (with_reducible refine Below.trans ?_ (Below.mono (by assumption) ?_)) | (first | omega | (simp only [World.size_alloc, World.size_setCell, World.size_drew]; omega) | (simp; omega) | (simp; done)))))).mono ?_; rintro e w3 ⟨rfl, hb3⟩; have z3 := hb3.size; (try simp only [World.size_alloc, World.size_setCell, World.size_drew] at z3)
  refine hK.out _ _ ?s54 (fun hHeld54 => ?_)
  case s54 => ((try dsimp only); (first | go_keep | (obtain ⟨hq, _⟩ := bcell ‹Below _ _ _›; (repeat' apply And.intro) <;> (rw [hq _ _ (by first | assumption | omega | (simp; done) | (simp; omega) | (simp; assumption))] <;> (first | assumption | (simp [*]; done))))))
  clear hK K hHeld
  have hHeld := hHeld54; clear hHeld54
  try simp only [Act.put, List.setIfInBounds_toArray, List.set_cons_zero, List.set_cons_succ]
  refine wpAnyH_take_d (i := 10) (d := some 8) (v := ?v55) rfl rfl (by kernel_rfl) (by kernel_rfl) (by kernel_rfl) (fun _ _ _ h => h) (Or.inl ⟨by kernel_rfl, ?y55⟩) (by assumption) ?_
  case y55 => (intro w' hSw; (try dsimp only at hSw); go_simp; try with_reducible rfl)
  try simp only [Act.put, List.setIfInBounds_toArray, List.set_cons_zero, List.set_cons_succ]
  refine wpAnyH_done (by kernel_rfl) ?_ _
  refine NoPanic.normal ?_
  clear hHeld
  have b3 : Below ((((w.alloc (.cells #[.int .i64 n, .slice A m c] 24)).alloc (.cells #[.int .i64 a] 2)).alloc (.cells #[.int .i64 b] 2)).alloc (.cells #[.int .i64 0, .slice none 0 0] 24)).heap.size ((((w.alloc (.cells #[.int .i64 n, .slice A m c] 24)).alloc (.cells #[.int .i64 a] 2)).alloc (.cells #[.int .i64 b] 2)).alloc (.cells #[.int .i64 0, .slice none 0 0] 24)) w3 := by (repeat' (first | (with_reducible exact Below.refl _ _) | (with_reducible assumption) | (with_reducible refine Below.alloc ?_ ?_ _) | (with_reducible refine Below.drew ?_) | (with_reducible refine below_drewN ?_ _) | (with_reducible refine Below.setCell ?_ ?_ _) | (with_reducible refine Below.trans ?_ (Below.mono (by assumption) ?_)) | (first | omega | (simp only [World.size_alloc, World.size_setCell, World.size_drew]; omega) | (simp; omega) | (simp; done))))
  have HZ := Lib.hid ((Blk.new' (n := w.heap.size + 1 + 1 + 1) _ (by simp)).below b3 (by simp) : Blk w3 (w.heap.size + 1 + 1 + 1) 24 #[.int .i64 0, .slice none 0 0])
  have HG := Lib.hid (((((Blk.new w _ _).alloc _).alloc _).alloc _).below b3 (by simp; omega) : Blk w3 w.heap.size 24 #[.int .i64 n, .slice A m c])
  have HA := Lib.hid ((((Blk.new' (n := w.heap.size + 1) _ (by simp)).alloc _).alloc _).below b3 (by simp) : Blk w3 (w.heap.size + 1) 2 #[.int .i64 a])
  have HB := Lib.hid (((Blk.new' (n := w.heap.size + 1 + 1) _ (by simp)).alloc _).below b3 (by simp) : Blk w3 (w.heap.size + 1 + 1) 2 #[.int .i64 b])
  have Hb1 : Hid (Below w.heap.size w w3) := by show Below _ _ _; exact Below.trans (b := ((((w.alloc (.cells #[.int .i64 n, .slice A m c] 24)).alloc (.cells #[.int .i64 a] 2)).alloc (.cells #[.int .i64 b] 2)).alloc (.cells #[.int .i64 0, .slice none 0 0] 24))) (by (repeat' (first | (with_reducible exact Below.refl _ _) | (with_reducible assumption) | (with_reducible refine Below.alloc ?_ ?_ _) | (with_reducible refine Below.drew ?_) | (with_reducible refine below_drewN ?_ _) | (with_reducible refine Below.setCell ?_ ?_ _) | (with_reducible refine Below.trans ?_ (Below.mono (by assumption) ?_)) | (first | omega | (simp only [World.size_alloc, World.size_setCell, World.size_drew]; omega) | (simp; omega) | (simp; done))))) (b3.mono (by simp; omega))
  have k0 := HG.out.cellAt 0 _ rfl
  have k1 := HA.out.cellAt 0 _ rfl
  have k2 := HB.out.cellAt 0 _ rfl
  have zz := HZ.out.lt
  clear b3 hb3 hb1 hb2 z1 z2 z3 ca cb cg kb
  go_wp2_with fail
  refine (cl.out w3 _ ?_).mono ?_
  · intro h20 W hW
    refine (cf.out (by omega) w.heap.size (w.heap.size + 1) (w.heap.size + 1 + 1) W (Hb1.out.trans (hW.mono (by omega))) (HG.out.below hW (by omega)) (HA.out.below hW (by omega)) (HB.out.below hW (by omega))).mono ?_
    rintro e w' h
    exact h
  rintro e w4 ⟨hq4, hb4⟩
  obtain ⟨A4, c4, rfl, hF⟩ := hq4.open_ HM.out
  have hZ4 := HZ.out.below hb4 zz
  have x0 := hZ4.cellAt 0 _ rfl
  have x1 : (w4.setCell ⟨w.heap.size + 1 + 1 + 1, 0, none⟩ (.int .i64 N)).cell? ⟨w.heap.size + 1 + 1 + 1, 1, none⟩ = some (.slice none 0 0) := (sc_other (by simp)).trans (hZ4.cellAt 1 _ rfl)
  have f0 := hZ4.frozen 0
  have f1 := hZ4.frozen 1
  have HZ4 := Lib.hid hZ4
  have HF := Lib.hid hF
  have Hb4 : Hid (Below w.heap.size w w4) := Hb1.out.trans (hb4.mono (by omega))
  clear hZ4 hF hb4 hq4 k0 k1 k2 HG HA HB HZ
  go_wp2
  refine ret_cell_tmp Try.results18 Try.underlying24 rfl (by kernel_rfl) rfl ((HZ4.out.set_ 0 (.int .i64 N)).set_ 1 (.slice A4 M c4)) rfl rfl ⟨⟨A4, c4, ?_, FrE.mono (n0 := w3.heap.size) ?_ (by omega)⟩, (Hb4.out.setCell (by show w.heap.size ≤ w.heap.size + 1 + 1 + 1; omega) _).setCell (by show w.heap.size ≤ w.heap.size + 1 + 1 + 1; omega) _⟩
  · rw [HM.out]; rfl
  · exact HF.out.away (((Only.refl _ _).set 0 _).set 1 _ : Only (some ⟨w.heap.size + 1 + 1 + 1, 0, none⟩) w4 _) zz

theorem gcode_no {qg qv : Bool} (h : ¬ (qg = true ∧ qv = true)) : gcode qg qv ≠ 0 := by
  cases qg <;> cases qv <;> simp_all [gcode]
theorem bridgeV_yes {n : Int} {es : List (Int × Int)} {a b : Int} (hg : isGraphB n es = true) (ha : inB a 0 ((es.length : Int) - 1) = true) (hb : inB b 0 ((es.length : Int) - 1) = true) (hab : a ≠ b) : bridgeV n es a b = limV (n + 2) (brL false n a b es es.length) := by
  simp [bridgeV, hg, ha, hb, hab]
theorem bridgeV_same {n : Int} {es : List (Int × Int)} {a b : Int} (hg : isGraphB n es = true) (ha : inB a 0 ((es.length : Int) - 1) = true) (hb : inB b 0 ((es.length : Int) - 1) = true) (hab : a = b) : bridgeV n es a b = (0, [], 5) := by
  subst hab; simp [bridgeV, hg, ha]
theorem bridgeV_no {n : Int} {es : List (Int × Int)} {a b : Int} (h : ¬ (isGraphB n es = true ∧ (inB a 0 ((es.length : Int) - 1) && inB b 0 ((es.length : Int) - 1)) = true)) : bridgeV n es a b = (0, [], gcode (isGraphB n es) (inB a 0 ((es.length : Int) - 1) && inB b 0 ((es.length : Int) - 1))) := by
  unfold bridgeV
  generalize isGraphB n es = qg at *
  generalize (inB a 0 ((es.length : Int) - 1) && inB b 0 ((es.length : Int) - 1)) = q at *
  cases qg <;> cases q <;> simp_all [gcode]

theorem implBridge_b (n : Int) (A : Option Addr) (c : Nat) (es : List (Int × Int)) (a b : Int) (w : World) (hl : es.length ≤ 1048576) (hr : RdE w A es) (N : Int) (rs : List (Int × Int)) (v : Int) (R0 : Hid ((bridgeV n es a b).1 = N)) (R1 : Hid ((bridgeV n es a b).2.1 = rs)) (R2 : Hid ((bridgeV n es a b).2.2 = v)) :
    Calls Try.prog 18 #[.agg #[.int .i64 n, .slice A es.length c], .int .i64 a, .int .i64 b] w fun e w' => RetG w' w.heap.size e N rs v ∧ Below w.heap.size w w' := by
  obtain ⟨qg, hg⟩ : ∃ q, isGraphB n es = q := ⟨_, rfl⟩
  obtain ⟨qa, ha⟩ : ∃ q, inB a 0 ((es.length : Int) - 1) = q := ⟨_, rfl⟩
  obtain ⟨qb, hb⟩ : ∃ q, inB b 0 ((es.length : Int) - 1) = q := ⟨_, rfl⟩
  by_cases hall : qg = true ∧ (qa && qb) = true
  · obtain ⟨rfl, h2⟩ := hall
    rw [Bool.and_eq_true] at h2
    obtain ⟨rfl, rfl⟩ := h2
    by_cases hab : a = b
    · rw [bridgeV_same hg ha hb hab] at R0 R1 R2
      obtain rfl : 0 = N := R0.out
      obtain rfl : [] = rs := R1.out
      obtain rfl : 5 = v := R2.out
      exact implBridge_errtrue n A c es a b w hl hr 5 true true hg ha hb (.inr ⟨rfl, hab, rfl⟩)
    · rw [bridgeV_yes hg ha hb hab] at R0 R1 R2
      have h30 := isGraphB_len hg
      have hn := isGraphB_n hg
      exact implBridge_yes n A c es a b w (by omega) hr hg ha hb hab (by omega) N rs v R0 R1 R2
  · rw [bridgeV_no (by rw [hg, ha, hb]; exact hall), hg, ha, hb] at R0 R1 R2
    obtain rfl : 0 = N := R0.out
    obtain rfl : [] = rs := R1.out
    have hv : gcode qg (qa && qb) = v := R2.out
    have hv0 : v ≠ 0 := by rw [← hv]; exact gcode_no hall
    cases qa
    · exact implBridge_errfalse n A c es a b w hl hr v qg qb hg ha hb (.inl ⟨hv, hv0⟩)
    · exact implBridge_errtrue n A c es a b w hl hr v qg qb hg ha hb (.inl ⟨hv, hv0⟩)

theorem specBridge_b (n : Int) (A : Option Addr) (c : Nat) (es : List (Int × Int)) (a b : Int) (w : World) (hl : es.length ≤ 1048576) (hr : RdE w A es) (N : Int) (rs : List (Int × Int)) (v : Int) (R0 : Hid ((bridgeV n es a b).1 = N)) (R1 : Hid ((bridgeV n es a b).2.1 = rs)) (R2 : Hid ((bridgeV n es a b).2.2 = v)) :
    Calls Try.prog 16 #[.agg #[.int .i64 n, .slice A es.length c], .int .i64 a, .int .i64 b] w fun e w' => RetG w' w.heap.size e N rs v ∧ Below w.heap.size w w' := by
  obtain ⟨qg, hg⟩ : ∃ q, isGraphB n es = q := ⟨_, rfl⟩
  obtain ⟨qa, ha⟩ : ∃ q, inB a 0 ((es.length : Int) - 1) = q := ⟨_, rfl⟩
  obtain ⟨qb, hb⟩ : ∃ q, inB b 0 ((es.length : Int) - 1) = q := ⟨_, rfl⟩
  have hv0 : [a, b].all (fun v => inB v 0 ((es.length : Int) - 1)) = (qa && qb) := by simp [ha, hb]
  by_cases hall : qg = true ∧ (qa && qb) = true
  · obtain ⟨rfl, h2⟩ := hall
    rw [h2] at hv0
    rw [Bool.and_eq_true] at h2
    obtain ⟨rfl, rfl⟩ := h2
    by_cases hab : a = b
    · rw [bridgeV_same hg ha hb hab] at R0 R1 R2
      obtain rfl : 0 = N := R0.out
      obtain rfl : [] = rs := R1.out
      obtain rfl : 5 = v := R2.out
      exact specBridge_err n A c es a b w hl hr 5 true true hg hv0 (.inr (.inl ⟨rfl, rfl, hab, rfl⟩))
    · rw [bridgeV_yes hg ha hb hab] at R0 R1 R2
      have h30 := isGraphB_len hg
      have hn := isGraphB_n hg
      by_cases h20 : n + 2 > 20
      · have hlv : limV (n + 2) (brL false n a b es es.length) = (0, [], 3) := by unfold limV; rw [if_pos h20]
        rw [hlv] at R0 R1 R2
        obtain rfl : 0 = N := R0.out
        obtain rfl : [] = rs := R1.out
        obtain rfl : 3 = v := R2.out
        exact specBridge_err n A c es a b w hl hr 3 true true hg hv0 (.inr (.inr ⟨rfl, rfl, hab, by omega, h20, rfl⟩))
      · have hlv : limV (n + 2) (brL false n a b es es.length) = (n + 2, madeE (brL false n a b es es.length), 0) := by unfold limV; rw [if_neg h20]
        rw [hlv] at R0 R1 R2
        obtain rfl : n + 2 = N := R0.out
        obtain rfl : madeE (brL false n a b es es.length) = rs := R1.out
        obtain rfl : 0 = v := R2.out
        rw [← brL_made]
        exact specBridge_yes n A c es a b w (by omega) hr hg hv0 hab (by omega)
  · rw [bridgeV_no (by rw [hg, ha, hb]; exact hall), hg, ha, hb] at R0 R1 R2
    obtain rfl : 0 = N := R0.out
    obtain rfl : [] = rs := R1.out
    have hv : gcode qg (qa && qb) = v := R2.out
    exact specBridge_err n A c es a b w hl hr v qg (qa && qb) hg hv0 (.inl ⟨hv, by rw [← hv]; exact gcode_no hall⟩)
end Go.Proofs.Ytblidpodbpoaeaa
