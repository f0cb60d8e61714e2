/- The reference's BridgeEdges. No statement of the program is proved here. -/
import Derived.Test.YtblidpodbpoaeaaBr1
namespace Go.Proofs.Ytblidpodbpoaeaa
open Go.RowKit
set_option linter.unusedSimpArgs false
set_option linter.unusedVariables false
set_option maxRecDepth 20000

/-- The cells of two edges. -/
theorem blk2_rd {w : World} {t : TypeId} {a b : Int × Int} {n : Nat} (hn : n = w.heap.size) : RdE (w.alloc (.cells #[.int .i64 a.1, .int .i64 a.2, .int .i64 b.1, .int .i64 b.2] t)) (some ⟨n, 0, none⟩) [a, b] :=
  blkE_rd (t := t) (es := [a, b]) (Blk.new' _ hn)
theorem blk1_rd {w : World} {t : TypeId} {a : Int × Int} {n : Nat} (hn : n = w.heap.size) : RdE (w.alloc (.cells #[.int .i64 a.1, .int .i64 a.2] t)) (some ⟨n, 0, none⟩) [a] :=
  blkE_rd (t := t) (es := [a]) (Blk.new' _ hn)

set_option maxHeartbeats 2000000 in
/-- The errors. -/
theorem specBridge_err (n : Int) (A : Option Addr) (c : Nat) (es : List (Int × Int)) (a b : Int) (w : World) (hl : es.length ≤ 1048576) (hr : RdE w A es) (v : Int) (qg qv : Bool) (hq : Hid (isGraphB n es = qg)) (hv : Hid ([a, b].all (fun v => inB v 0 ((es.length : Int) - 1)) = qv))
    (h : (gcode qg qv = v ∧ v ≠ 0) ∨ (qg = true ∧ qv = true ∧ a = b ∧ v = 5) ∨ (qg = true ∧ qv = true ∧ a ≠ b ∧ (2 ≤ n ∧ n ≤ 20) ∧ n + 2 > 20 ∧ v = 3)) :
    Calls Try.prog 16 #[.agg #[.int .i64 n, .slice A es.length c], .int .i64 a, .int .i64 b] w fun e w' => RetG w' w.heap.size e 0 [] v ∧ Below w.heap.size w w' := by
  have c1 := fun W L (hW : Below w.heap.size w W) (hL : RdI W L [a, b]) => l06Edges_b n A c es L 2 [a, b] W qg qv hq hv hl (by simp) (hr.below hW) hL
  clear hr hq hv
  generalize es.length = m at *
  rcases h with ⟨hc, hv0⟩ | ⟨rfl, rfl, hne, rfl⟩ | ⟨rfl, rfl, hne, ⟨hn0, hn⟩, hn2, rfl⟩
  · have g1 : (v != 0) = true := by simpa using hv0
    rw [hc] at c1
    go_enter Try.func16, Try.ntmps16
    go_wp2_with fail
    refine (c1 (((w.alloc (.cells #[.int .i64 n, .slice A m c] 24)).alloc (.cells #[.int .i64 0, .slice none 0 0] 24)).alloc (.cells #[.int .i64 a, .int .i64 b] 2)) (some ⟨w.heap.size + 2, 0, none⟩) (by (repeat' (first | (with_reducible exact Below.refl _ _) | (with_reducible assumption) | (with_reducible refine Below.alloc ?_ ?_ _) | (with_reducible refine Below.drew ?_) | (with_reducible refine below_drewN ?_ _) | (with_reducible refine Below.setCell ?_ ?_ _) | (with_reducible refine Below.trans ?_ (Below.mono (by assumption) ?_)) | (first | omega | (simp only [World.size_alloc, World.size_setCell, World.size_drew]; omega) | (simp; omega) | (simp; done))))) (blkI_rd (t := 2) (xs := [a, b]) (Blk.new' _ (by simp)))).mono ?_
    rintro e w1 ⟨rfl, hb1⟩
    have HZ := Lib.hid (((Blk.new' (n := w.heap.size + 1) (t := 24) (cs := #[.int .i64 0, .slice none 0 0]) _ (by simp)).alloc _).below hb1 (by simp) : Blk w1 (w.heap.size + 1) 24 #[.int .i64 0, .slice none 0 0])
    have hK : Blk w1 w.heap.size 24 #[.int .i64 n, .slice A m c] := (((Blk.new w _ _).alloc _).alloc _).below hb1 (by simp; omega)
    have k0 := hK.cellAt 0 _ rfl
    have x0 := HZ.out.cellAt 0 _ rfl
    have x1 : (w1.setCell ⟨w.heap.size + 1, 0, none⟩ (.int .i64 0)).cell? ⟨w.heap.size + 1, 1, none⟩ = some (.slice none 0 0) := (sc_other (by simp)).trans (HZ.out.cellAt 1 _ rfl)
    have f0 := HZ.out.frozen 0
    have f1 := HZ.out.frozen 1
    have Hb1 : Hid (Below w.heap.size w w1) := by show Below _ _ _; (repeat' (first | (with_reducible exact Below.refl _ _) | (with_reducible assumption) | (with_reducible refine Below.alloc ?_ ?_ _) | (with_reducible refine Below.drew ?_) | (with_reducible refine below_drewN ?_ _) | (with_reducible refine Below.setCell ?_ ?_ _) | (with_reducible refine Below.trans ?_ (Below.mono (by assumption) ?_)) | (first | omega | (simp only [World.size_alloc, World.size_setCell, World.size_drew]; omega) | (simp; omega) | (simp; done))))
    clear hb1 hK
    go_wp2
    refine ret_cell_tmp Try.results16 Try.underlying24 rfl (by kernel_rfl) rfl ((HZ.out.set_ 0 (.int .i64 0)).set_ 1 (.slice none 0 0)) rfl rfl ⟨⟨none, 0, rfl, FrE.nil⟩, (Hb1.out.setCell (by show w.heap.size ≤ w.heap.size + 1; omega) _).setCell (by show w.heap.size ≤ w.heap.size + 1; omega) _⟩
  · have g1 : (a == b) = true := by simpa using hne
    clear hne
    go_enter Try.func16, Try.ntmps16
    go_wp2_with fail
    refine (c1 (((w.alloc (.cells #[.int .i64 n, .slice A m c] 24)).alloc (.cells #[.int .i64 0, .slice none 0 0] 24)).alloc (.cells #[.int .i64 a, .int .i64 b] 2)) (some ⟨w.heap.size + 2, 0, none⟩) (by (repeat' (first | (with_reducible exact Below.refl _ _) | (with_reducible assumption) | (with_reducible refine Below.alloc ?_ ?_ _) | (with_reducible refine Below.drew ?_) | (with_reducible refine below_drewN ?_ _) | (with_reducible refine Below.setCell ?_ ?_ _) | (with_reducible refine Below.trans ?_ (Below.mono (by assumption) ?_)) | (first | omega | (simp only [World.size_alloc, World.size_setCell, World.size_drew]; omega) | (simp; omega) | (simp; done))))) (blkI_rd (t := 2) (xs := [a, b]) (Blk.new' _ (by simp)))).mono ?_
    rintro e w1 ⟨rfl, hb1⟩
    have HZ := Lib.hid (((Blk.new' (n := w.heap.size + 1) (t := 24) (cs := #[.int .i64 0, .slice none 0 0]) _ (by simp)).alloc _).below hb1 (by simp) : Blk w1 (w.heap.size + 1) 24 #[.int .i64 0, .slice none 0 0])
    have hK : Blk w1 w.heap.size 24 #[.int .i64 n, .slice A m c] := (((Blk.new w _ _).alloc _).alloc _).below hb1 (by simp; omega)
    have k0 := hK.cellAt 0 _ rfl
    have x0 := HZ.out.cellAt 0 _ rfl
    have x1 : (w1.setCell ⟨w.heap.size + 1, 0, none⟩ (.int .i64 0)).cell? ⟨w.heap.size + 1, 1, none⟩ = some (.slice none 0 0) := (sc_other (by simp)).trans (HZ.out.cellAt 1 _ rfl)
    have f0 := HZ.out.frozen 0
    have f1 := HZ.out.frozen 1
    have Hb1 : Hid (Below w.heap.size w w1) := by show Below _ _ _; (repeat' (first | (with_reducible exact Below.refl _ _) | (with_reducible assumption) | (with_reducible refine Below.alloc ?_ ?_ _) | (with_reducible refine Below.drew ?_) | (with_reducible refine below_drewN ?_ _) | (with_reducible refine Below.setCell ?_ ?_ _) | (with_reducible refine Below.trans ?_ (Below.mono (by assumption) ?_)) | (first | omega | (simp only [World.size_alloc, World.size_setCell, World.size_drew]; omega) | (simp; omega) | (simp; done))))
    clear hb1 hK
    go_wp2
    refine ret_cell_tmp Try.results16 Try.underlying24 rfl (by kernel_rfl) rfl ((HZ.out.set_ 0 (.int .i64 0)).set_ 1 (.slice none 0 0)) rfl rfl ⟨⟨none, 0, rfl, FrE.nil⟩, (Hb1.out.setCell (by show w.heap.size ≤ w.heap.size + 1; omega) _).setCell (by show w.heap.size ≤ w.heap.size + 1; omega) _⟩
  · have g1 : (a == b) = false := by simpa using hne
    clear hne
    have g2 : decide (n + 2 > 20) = true := by simpa using hn2
    have p2 : wrap64 (n + 2) = n + 2 := wrap64_small (by omega) (by omega)
    go_enter Try.func16, Try.ntmps16
    go_wp2_with fail
    refine (c1 (((w.alloc (.cells #[.int .i64 n, .slice A m c] 24)).alloc (.cells #[.int .i64 0, .slice none 0 0] 24)).alloc (.cells #[.int .i64 a, .int .i64 b] 2)) (some ⟨w.heap.size + 2, 0, none⟩) (by (repeat' (first | (with_reducible exact Below.refl _ _) | (with_reducible assumption) | (with_reducible refine Below.alloc ?_ ?_ _) | (with_reducible refine Below.drew ?_) | (with_reducible refine below_drewN ?_ _) | (with_reducible refine Below.setCell ?_ ?_ _) | (with_reducible refine Below.trans ?_ (Below.mono (by assumption) ?_)) | (first | omega | (simp only [World.size_alloc, World.size_setCell, World.size_drew]; omega) | (simp; omega) | (simp; done))))) (blkI_rd (t := 2) (xs := [a, b]) (Blk.new' _ (by simp)))).mono ?_
    rintro e w1 ⟨rfl, hb1⟩
    have HZ := Lib.hid (((Blk.new' (n := w.heap.size + 1) (t := 24) (cs := #[.int .i64 0, .slice none 0 0]) _ (by simp)).alloc _).below hb1 (by simp) : Blk w1 (w.heap.size + 1) 24 #[.int .i64 0, .slice none 0 0])
    have hK : Blk w1 w.heap.size 24 #[.int .i64 n, .slice A m c] := (((Blk.new w _ _).alloc _).alloc _).below hb1 (by simp; omega)
    have k0 := hK.cellAt 0 _ rfl
    have x0 := HZ.out.cellAt 0 _ rfl
    have x1 : (w1.setCell ⟨w.heap.size + 1, 0, none⟩ (.int .i64 0)).cell? ⟨w.heap.size + 1, 1, none⟩ = some (.slice none 0 0) := (sc_other (by simp)).trans (HZ.out.cellAt 1 _ rfl)
    have f0 := HZ.out.frozen 0
    have f1 := HZ.out.frozen 1
    have Hb1 : Hid (Below w.heap.size w w1) := by show Below _ _ _; (repeat' (first | (with_reducible exact Below.refl _ _) | (with_reducible assumption) | (with_reducible refine Below.alloc ?_ ?_ _) | (with_reducible refine Below.drew ?_) | (with_reducible refine below_drewN ?_ _) | (with_reducible refine Below.setCell ?_ ?_ _) | (with_reducible refine Below.trans ?_ (Below.mono (by assumption) ?_)) | (first | omega | (simp only [World.size_alloc, World.size_setCell, World.size_drew]; omega) | (simp; omega) | (simp; done))))
    clear hb1 hK
    go_wp2
    refine ret_cell_tmp Try.results16 Try.underlying24 rfl (by kernel_rfl) rfl ((HZ.out.set_ 0 (.int .i64 0)).set_ 1 (.slice none 0 0)) rfl rfl ⟨⟨none, 0, rfl, FrE.nil⟩, (Hb1.out.setCell (by show w.heap.size ≤ w.heap.size + 1; omega) _).setCell (by show w.heap.size ≤ w.heap.size + 1; omega) _⟩

set_option maxHeartbeats 8000000 in
/-- The graph. -/
theorem specBridge_yes (n : Int) (A : Option Addr) (c : Nat) (es : List (Int × Int)) (a b : Int) (w : World) (hl : es.length ≤ 1000) (hr : RdE w A es) (hq : Hid (isGraphB n es = true)) (hv : Hid ([a, b].all (fun v => inB v 0 ((es.length : Int) - 1)) = true)) (hab : a ≠ b) (hn : 2 ≤ n ∧ n + 2 ≤ 20) :
    Calls Try.prog 16 #[.agg #[.int .i64 n, .slice A es.length c], .int .i64 a, .int .i64 b] w fun e w' => RetG w' w.heap.size e (n + 2) (madeE (brL true n a b es es.length)) 0 ∧ Below w.heap.size w w' := by
  have c1 := fun W L (hW : Below w.heap.size w W) (hL : RdI W L [a, b]) => l06Edges_b n A c es L 2 [a, b] W true true hq hv (by omega) (by simp) (hr.below hW) hL
  have Hre : Hid (∀ W, Below w.heap.size w W → RdE W A es) := fun W hW => hr.below hW
  have Hlen : Hid (∀ k, 0 < (brL true n a b es k).length ∧ (brL true n a b es k).length ≤ 1 + 2 * k) := brL_len true n a b es
  obtain ⟨m, Hm⟩ : ∃ m, Hid (es.length = m) := ⟨_, rfl⟩
  rw [Hm.out] at hl c1 ⊢
  clear hr hq hv
  obtain ⟨hn0, hn2⟩ := hn
  have g1 : (a == b) = false := by simpa using hab
  have g2 : decide (n + 2 > 20) = false := by simp; omega
  obtain ⟨n1, Hn1⟩ : ∃ x : Int, Hid (n + 1 = x) := ⟨_, rfl⟩
  have p1 : wrap64 (n + 1) = n1 := by rw [← Hn1.out]; exact wrap64_small (by omega) (by omega)
  have p2 : wrap64 (n + 2) = n + 2 := wrap64_small (by omega) (by omega)
  have Hbn : Hid (2 ≤ n ∧ n + 2 ≤ 20) := ⟨hn0, hn2⟩
  clear hn0 hn2
  have hcz : gcode true true = 0 := rfl
  rw [hcz] at c1
  clear hcz
  go_enter Try.func16, Try.ntmps16
  go_wp2_with fail
  refine (c1 (((w.alloc (.cells #[.int .i64 n, .slice A m c] 24)).alloc (.cells #[.int .i64 0, .slice none 0 0] 24)).alloc (.cells #[.int .i64 a, .int .i64 b] 2)) (some ⟨w.heap.size + 2, 0, none⟩) (by (repeat' (first | (with_reducible exact Below.refl _ _) | (with_reducible assumption) | (with_reducible refine Below.alloc ?_ ?_ _) | (with_reducible refine Below.drew ?_) | (with_reducible refine below_drewN ?_ _) | (with_reducible refine Below.setCell ?_ ?_ _) | (with_reducible refine Below.trans ?_ (Below.mono (by assumption) ?_)) | (first | omega | (simp only [World.size_alloc, World.size_setCell, World.size_drew]; omega) | (simp; omega) | (simp; done))))) (blkI_rd (t := 2) (xs := [a, b]) (Blk.new' _ (by simp)))).mono ?_
  rintro e w1 ⟨rfl, hb1⟩
  have HZ1 : Hid (Blk w1 (w.heap.size + 1) 24 #[.int .i64 0, .slice none 0 0]) := ((Blk.new' (n := w.heap.size + 1) _ (by simp)).alloc _).below hb1 (by simp)
  have HK1 : Hid (Blk w1 w.heap.size 24 #[.int .i64 n, .slice A m c]) := (((Blk.new w _ _).alloc _).alloc _).below hb1 (by simp; omega)
  have k0 := HK1.out.cellAt 0 _ rfl
  have k1 := HK1.out.cellAt 1 _ rfl
  have z1 := hb1.size
  simp only [World.size_alloc, World.size_setCell, World.size_drew] at z1
  have Hb1 : Hid (Below w.heap.size w w1) := by show Below _ _ _; (repeat' (first | (with_reducible exact Below.refl _ _) | (with_reducible assumption) | (with_reducible refine Below.alloc ?_ ?_ _) | (with_reducible refine Below.drew ?_) | (with_reducible refine below_drewN ?_ _) | (with_reducible refine Below.setCell ?_ ?_ _) | (with_reducible refine Below.trans ?_ (Below.mono (by assumption) ?_)) | (first | omega | (simp only [World.size_alloc, World.size_setCell, World.size_drew]; omega) | (simp; omega) | (simp; done))))
  clear hb1 c1
  go_wp2_with fail
  simp only [p1, p2]
  go_loopw [9, 10] (fun s i wr => ∃ (k : Nat) (L : Nat), k ≤ m ∧ i = .int .i64 k ∧ Hid (L ≤ 2001) ∧ Hid (wr.ownsRow (w.heap.size + 2) 54 2 s L (cE (brL true n a b es k))) ∧ Hid (Blk wr (w.heap.size + 1) 24 #[.int .i64 0, .slice none 0 0]) ∧ Hid (Blk wr w.heap.size 24 #[.int .i64 n, .slice A m c]) ∧ Hid (Below w.heap.size w wr)) (fun _ i _ => m - (intOf i).toNat)
  case atStart => exact ⟨0, 1, Nat.zero_le _, rfl, by show _ ≤ _; omega, by { show World.ownsRow _ _ _ _ _ _ _; rw [brL_zero, Hn1.out]; exact own_mono (own_blk (xs := cE [(n, n1)]) (n := 1) (Blk.new' (n := w1.heap.size) _ rfl) rfl (by decide)) (by omega) }, HZ1.out.alloc _, HK1.out.alloc _, by have := Hb1.out; show Below _ _ _; (repeat' (first | (with_reducible exact Below.refl _ _) | (with_reducible assumption) | (with_reducible refine Below.alloc ?_ ?_ _) | (with_reducible refine Below.drew ?_) | (with_reducible refine below_drewN ?_ _) | (with_reducible refine Below.setCell ?_ ?_ _) | (with_reducible refine Below.trans ?_ (Below.mono (by assumption) ?_)) | (first | omega | (simp only [World.size_alloc, World.size_setCell, World.size_drew]; omega) | (simp; omega) | (simp; done))))⟩
  case round =>
    clear HZ1 HK1 k0 k1 z1 Hb1
    obtain ⟨k, L, hk, rfl, HL, Hown, HZ, HK, Hbel⟩ := hrel
    obtain ⟨A1, c1, rfl⟩ := own_form Hown.out
    have hsz := HZ.out.lt
    have k0 := HK.out.cellAt 0 _ rfl
    have k1 := HK.out.cellAt 1 _ rfl
    by_cases hlt : k < m
    · obtain ⟨bb, off, rfl, hb, hc⟩ := (Hre.out wr Hbel.out).pos (by rw [Hm.out]; omega)
      obtain ⟨hc0, hc1⟩ := hc k (by rw [Hm.out]; exact hlt)
      obtain ⟨⟨x, y⟩, Hxy⟩ : ∃ x, Hid (es.getD k (0, 0) = x) := ⟨_, rfl⟩
      rw [Hxy.out] at hc0 hc1
      dsimp only at hc0 hc1
      clear hc
      obtain ⟨P, HP⟩ : ∃ P, Hid (brL true n a b es k = P) := ⟨_, rfl⟩
      rw [HP.out] at Hown
      have HPL : Hid (L = P.length) := own_len Hown.out
      have HPl : Hid (P.length ≤ 1 + 2 * k) := by show _ ≤ _; rw [← HP.out]; exact (Hlen.out k).2
      have hkm : k ≤ 1000 := by omega
      obtain ⟨ek, ek2, ek3⟩ := idxF k m hlt
      by_cases ha : (k : Int) = a
      · have ga : ((k : Int) == a) = true := by simpa using ha
        have Hs : Hid (brL true n a b es (k + 1) = P ++ [(x, n), (y, n)]) := by show _ = _; rw [brL_succ, HP.out, Hxy.out]; simp [br1, ha]
        have Ha := Lib.hid ha; clear ha
        have hk0 : ((wr.alloc (.cells #[.int .i64 x, .int .i64 y] 54))).cell? ⟨w.heap.size, 0, none⟩ = some (.int .i64 n) := (HK.out.alloc _).cellAt 0 _ rfl
        have hown2 := own_below Hown.out (show Below wr.heap.size wr ((wr.alloc (.cells #[.int .i64 x, .int .i64 y] 54)).alloc (.cells #[.int .i64 x, .int .i64 n, .int .i64 y, .int .i64 n] 54)) by (repeat' (first | (with_reducible exact Below.refl _ _) | (with_reducible assumption) | (with_reducible refine Below.alloc ?_ ?_ _) | (with_reducible refine Below.drew ?_) | (with_reducible refine below_drewN ?_ _) | (with_reducible refine Below.setCell ?_ ?_ _) | (with_reducible refine Below.trans ?_ (Below.mono (by assumption) ?_)) | (first | omega | (simp only [World.size_alloc, World.size_setCell, World.size_drew]; omega) | (simp; omega) | (simp; done)))))
        have hB3 : Below w.heap.size w ((wr.alloc (.cells #[.int .i64 x, .int .i64 y] 54)).alloc (.cells #[.int .i64 x, .int .i64 n, .int .i64 y, .int .i64 n] 54)) := by have := Hbel.out; (repeat' (first | (with_reducible exact Below.refl _ _) | (with_reducible assumption) | (with_reducible refine Below.alloc ?_ ?_ _) | (with_reducible refine Below.drew ?_) | (with_reducible refine below_drewN ?_ _) | (with_reducible refine Below.setCell ?_ ?_ _) | (with_reducible refine Below.trans ?_ (Below.mono (by assumption) ?_)) | (first | omega | (simp only [World.size_alloc, World.size_setCell, World.size_drew]; omega) | (simp; omega) | (simp; done))))
        have hnew := blk2_rd (w := (wr.alloc (.cells #[.int .i64 x, .int .i64 y] 54))) (t := 54) (a := (x, n)) (b := (y, n)) (n := wr.heap.size + 1) (by simp)
        have hZ3 := (HZ.out.alloc (.cells #[.int .i64 x, .int .i64 y] 54)).alloc (.cells #[.int .i64 x, .int .i64 n, .int .i64 y, .int .i64 n] 54)
        have hK3 := (HK.out.alloc (.cells #[.int .i64 x, .int .i64 y] 54)).alloc (.cells #[.int .i64 x, .int .i64 n, .int .i64 y, .int .i64 n] 54)
        go_wp2_with (first
          | (at_builtin; refine wpList_appendE rfl rfl (w.heap.size + 2) _ L P rfl hown2 (wr.heap.size + 1) 0 2 2 [(x, n), (y, n)] rfl rfl hnew (by have := HL.out; omega) (by omega) (by simp; omega) ?_))
        intro v' w3 hown3 hfr hgr
        have Hb3 : Hid (Below w.heap.size w w3) := hfr w.heap.size w (by omega) hB3
        have HZ3 : Hid (Blk w3 (w.heap.size + 1) 24 #[.int .i64 0, .slice none 0 0]) := hZ3.below (hfr (w.heap.size + 2) _ (Nat.le_refl _) (Below.refl _ _)) (by omega)
        have HK3 : Hid (Blk w3 w.heap.size 24 #[.int .i64 n, .slice (some ⟨bb, off, none⟩) m c]) := hK3.below (hfr (w.heap.size + 2) _ (Nat.le_refl _) (Below.refl _ _)) (by omega)
        obtain ⟨g3, c3, rfl, _, _⟩ := own_someI hown3 (by omega)
        have Hown3 : Hid (w3.ownsRow (w.heap.size + 2) 54 2 (.slice (some ⟨g3, 0, none⟩) (L + 2) c3) (L + 2) (cE (brL true n a b es (k + 1)))) := by
          show World.ownsRow _ _ _ _ _ _ _
          rw [Hs.out]
          exact hown3
        have HL3 : Hid (L + 2 ≤ 2001) := by show _ ≤ _; have h1 := own_len Hown3.out; have h2 := (Hlen.out (k + 1)).2; omega
        have hk9 : k ≤ 1000 := hkm
        clear hown3 hfr hgr hown2 hnew hB3 Hown hZ3 hK3 HZ HK Hbel k0 k1 hc0 hc1 hkm
        go_wp2
        exact ⟨⟨k + 1, L + 2, by omega, by go_num, HL3, Hown3, HZ3, HK3, Hb3⟩, by simp [intOf]; omega⟩
      · have ga : ((k : Int) == a) = false := by simpa using ha
        by_cases hb9 : (k : Int) = b
        · have gb : ((k : Int) == b) = true := by simpa using hb9
          have Hs : Hid (brL true n a b es (k + 1) = P ++ [(x, n1), (y, n1)]) := by show _ = _; rw [brL_succ, HP.out, Hxy.out, ← Hn1.out]; simp [br1, ha, hb9, hab.symm]
          have Ha := Lib.hid ha; have Hb9 := Lib.hid hb9; clear ha hb9
          have hk0 : ((wr.alloc (.cells #[.int .i64 x, .int .i64 y] 54))).cell? ⟨w.heap.size, 0, none⟩ = some (.int .i64 n) := (HK.out.alloc _).cellAt 0 _ rfl
          have hown2 := own_below Hown.out (show Below wr.heap.size wr ((wr.alloc (.cells #[.int .i64 x, .int .i64 y] 54)).alloc (.cells #[.int .i64 x, .int .i64 n1, .int .i64 y, .int .i64 n1] 54)) by (repeat' (first | (with_reducible exact Below.refl _ _) | (with_reducible assumption) | (with_reducible refine Below.alloc ?_ ?_ _) | (with_reducible refine Below.drew ?_) | (with_reducible refine below_drewN ?_ _) | (with_reducible refine Below.setCell ?_ ?_ _) | (with_reducible refine Below.trans ?_ (Below.mono (by assumption) ?_)) | (first | omega | (simp only [World.size_alloc, World.size_setCell, World.size_drew]; omega) | (simp; omega) | (simp; done)))))
          have hB3 : Below w.heap.size w ((wr.alloc (.cells #[.int .i64 x, .int .i64 y] 54)).alloc (.cells #[.int .i64 x, .int .i64 n1, .int .i64 y, .int .i64 n1] 54)) := by have := Hbel.out; (repeat' (first | (with_reducible exact Below.refl _ _) | (with_reducible assumption) | (with_reducible refine Below.alloc ?_ ?_ _) | (with_reducible refine Below.drew ?_) | (with_reducible refine below_drewN ?_ _) | (with_reducible refine Below.setCell ?_ ?_ _) | (with_reducible refine Below.trans ?_ (Below.mono (by assumption) ?_)) | (first | omega | (simp only [World.size_alloc, World.size_setCell, World.size_drew]; omega) | (simp; omega) | (simp; done))))
          have hnew := blk2_rd (w := (wr.alloc (.cells #[.int .i64 x, .int .i64 y] 54))) (t := 54) (a := (x, n1)) (b := (y, n1)) (n := wr.heap.size + 1) (by simp)
          have hZ3 := (HZ.out.alloc (.cells #[.int .i64 x, .int .i64 y] 54)).alloc (.cells #[.int .i64 x, .int .i64 n1, .int .i64 y, .int .i64 n1] 54)
          have hK3 := (HK.out.alloc (.cells #[.int .i64 x, .int .i64 y] 54)).alloc (.cells #[.int .i64 x, .int .i64 n1, .int .i64 y, .int .i64 n1] 54)
          go_wp2_with (first
            | (at_builtin; refine wpList_appendE rfl rfl (w.heap.size + 2) _ L P rfl hown2 (wr.heap.size + 1) 0 2 2 [(x, n1), (y, n1)] rfl rfl hnew (by have := HL.out; omega) (by omega) (by simp; omega) ?_))
          intro v' w3 hown3 hfr hgr
          have Hb3 : Hid (Below w.heap.size w w3) := hfr w.heap.size w (by omega) hB3
          have HZ3 : Hid (Blk w3 (w.heap.size + 1) 24 #[.int .i64 0, .slice none 0 0]) := hZ3.below (hfr (w.heap.size + 2) _ (Nat.le_refl _) (Below.refl _ _)) (by omega)
          have HK3 : Hid (Blk w3 w.heap.size 24 #[.int .i64 n, .slice (some ⟨bb, off, none⟩) m c]) := hK3.below (hfr (w.heap.size + 2) _ (Nat.le_refl _) (Below.refl _ _)) (by omega)
          obtain ⟨g3, c3, rfl, _, _⟩ := own_someI hown3 (by omega)
          have Hown3 : Hid (w3.ownsRow (w.heap.size + 2) 54 2 (.slice (some ⟨g3, 0, none⟩) (L + 2) c3) (L + 2) (cE (brL true n a b es (k + 1)))) := by
            show World.ownsRow _ _ _ _ _ _ _
            rw [Hs.out]
            exact hown3
          have HL3 : Hid (L + 2 ≤ 2001) := by show _ ≤ _; have h1 := own_len Hown3.out; have h2 := (Hlen.out (k + 1)).2; omega
          have hk9 : k ≤ 1000 := hkm
          clear hown3 hfr hgr hown2 hnew hB3 Hown hZ3 hK3 HZ HK Hbel k0 k1 hc0 hc1 hkm
          go_wp2
          exact ⟨⟨k + 1, L + 2, by omega, by go_num, HL3, Hown3, HZ3, HK3, Hb3⟩, by simp [intOf]; omega⟩
        · have gb : ((k : Int) == b) = false := by simpa using hb9
          have Hs : Hid (brL true n a b es (k + 1) = P ++ [(x, y)]) := by show _ = _; rw [brL_succ, HP.out, Hxy.out]; simp [br1, ha, hb9]
          have hown2 := own_below Hown.out (show Below wr.heap.size wr ((wr.alloc (.cells #[.int .i64 x, .int .i64 y] 54)).alloc (.cells #[.int .i64 x, .int .i64 y] 54)) by (repeat' (first | (with_reducible exact Below.refl _ _) | (with_reducible assumption) | (with_reducible refine Below.alloc ?_ ?_ _) | (with_reducible refine Below.drew ?_) | (with_reducible refine below_drewN ?_ _) | (with_reducible refine Below.setCell ?_ ?_ _) | (with_reducible refine Below.trans ?_ (Below.mono (by assumption) ?_)) | (first | omega | (simp only [World.size_alloc, World.size_setCell, World.size_drew]; omega) | (simp; omega) | (simp; done)))))
          have hB3 : Below w.heap.size w ((wr.alloc (.cells #[.int .i64 x, .int .i64 y] 54)).alloc (.cells #[.int .i64 x, .int .i64 y] 54)) := by have := Hbel.out; (repeat' (first | (with_reducible exact Below.refl _ _) | (with_reducible assumption) | (with_reducible refine Below.alloc ?_ ?_ _) | (with_reducible refine Below.drew ?_) | (with_reducible refine below_drewN ?_ _) | (with_reducible refine Below.setCell ?_ ?_ _) | (with_reducible refine Below.trans ?_ (Below.mono (by assumption) ?_)) | (first | omega | (simp only [World.size_alloc, World.size_setCell, World.size_drew]; omega) | (simp; omega) | (simp; done))))
          have hnew := blk1_rd (w := (wr.alloc (.cells #[.int .i64 x, .int .i64 y] 54))) (t := 54) (a := (x, y)) (n := wr.heap.size + 1) (by simp)
          have hZ3 := (HZ.out.alloc (.cells #[.int .i64 x, .int .i64 y] 54)).alloc (.cells #[.int .i64 x, .int .i64 y] 54)
          have hK3 := (HK.out.alloc (.cells #[.int .i64 x, .int .i64 y] 54)).alloc (.cells #[.int .i64 x, .int .i64 y] 54)
          go_wp2_with (first
            | (at_builtin; refine wpList_appendE rfl rfl (w.heap.size + 2) _ L P rfl hown2 (wr.heap.size + 1) 0 1 1 [(x, y)] rfl rfl hnew (by have := HL.out; omega) (by omega) (by simp; omega) ?_))
          intro v' w3 hown3 hfr hgr
          have Hb3 : Hid (Below w.heap.size w w3) := hfr w.heap.size w (by omega) hB3
          have HZ3 : Hid (Blk w3 (w.heap.size + 1) 24 #[.int .i64 0, .slice none 0 0]) := hZ3.below (hfr (w.heap.size + 2) _ (Nat.le_refl _) (Below.refl _ _)) (by omega)
          have HK3 : Hid (Blk w3 w.heap.size 24 #[.int .i64 n, .slice (some ⟨bb, off, none⟩) m c]) := hK3.below (hfr (w.heap.size + 2) _ (Nat.le_refl _) (Below.refl _ _)) (by omega)
          obtain ⟨g3, c3, rfl, _, _⟩ := own_someI hown3 (by omega)
          have Hown3 : Hid (w3.ownsRow (w.heap.size + 2) 54 2 (.slice (some ⟨g3, 0, none⟩) (L + 1) c3) (L + 1) (cE (brL true n a b es (k + 1)))) := by
            show World.ownsRow _ _ _ _ _ _ _
            rw [Hs.out]
            exact hown3
          have HL3 : Hid (L + 1 ≤ 2001) := by show _ ≤ _; have h1 := own_len Hown3.out; have h2 := (Hlen.out (k + 1)).2; omega
          have hk9 : k ≤ 1000 := hkm
          clear hown3 hfr hgr hown2 hnew hB3 Hown hZ3 hK3 HZ HK Hbel k0 k1 hc0 hc1 hkm
          go_wp2
          exact ⟨⟨k + 1, L + 1, by omega, by go_num, HL3, Hown3, HZ3, HK3, Hb3⟩, by simp [intOf]; omega⟩
    · obtain rfl : k = m := by omega
      have HLl : Hid (L = (brL true n a b es k).length) := own_len Hown.out
      have hrd := own_rdE Hown.out
      have cm := l01Made_b (n + 2) A1 c1 (brL true n a b es k) wr (by have := (Hlen.out k).2; omega) hrd
      rw [← HLl.out] at cm
      go_wp2_with fail
      refine cm.mono ?_
      rintro e w4 ⟨A3, c3, rfl, hF, hb4⟩
      have hZ4 := HZ.out.below hb4 hsz
      have x0 := hZ4.cellAt 0 _ rfl
      have x1 : (w4.setCell ⟨w.heap.size + 1, 0, none⟩ (.int .i64 (n + 2))).cell? ⟨w.heap.size + 1, 1, none⟩ = some (.slice none 0 0) := (sc_other (by simp)).trans (hZ4.cellAt 1 _ rfl)
      have f0 := hZ4.frozen 0
      have f1 := hZ4.frozen 1
      have HZ4 := Lib.hid hZ4
      have HF := Lib.hid hF
      have Hb4 : Hid (Below w.heap.size w w4) := Hbel.out.trans (hb4.mono (by omega))
      clear hZ4 hF hb4 cm hrd HZ HK Hown Hbel k0 k1
      go_wp2
      refine ret_cell_tmp Try.results16 Try.underlying24 rfl (by kernel_rfl) rfl ((HZ4.out.set_ 0 (.int .i64 (n + 2))).set_ 1 (.slice A3 L c3)) rfl rfl ⟨⟨A3, c3, ?_, FrE.mono (n0 := wr.heap.size) ?_ (by omega)⟩, (Hb4.out.setCell (by show w.heap.size ≤ w.heap.size + 1; omega) _).setCell (by show w.heap.size ≤ w.heap.size + 1; omega) _⟩
      · rw [madeE_len, ← HLl.out]; rfl
      · exact HF.out.away (((Only.refl _ _).set 0 _).set 1 _ : Only (some ⟨w.heap.size + 1, 0, none⟩) w4 _) hsz
end Go.Proofs.Ytblidpodbpoaeaa
