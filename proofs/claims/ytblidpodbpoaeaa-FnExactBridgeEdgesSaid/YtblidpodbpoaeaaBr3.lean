/- impl.BridgeEdges. No statement of the program is proved here. -/
import Derived.Test.YtblidpodbpoaeaaBr2
import Derived.Test.YtblidpodbpoaeaaNe1
namespace Go.Proofs.Ytblidpodbpoaeaa
open Go.RowKit
set_option linter.unusedSimpArgs false
set_option linter.unusedVariables false
set_option maxRecDepth 20000

theorem ent_bridge1 : Ent 45 := enters_of Try.func45 (by kernel_rfl) rfl

set_option maxHeartbeats 8000000 in
/-- The function value that BridgeEdges hands to limited. -/
theorem bridge1_b (gg ga gb : Nat) (n : Int) (A : Option Addr) (c : Nat) (es : List (Int × Int)) (a b : Int) (w : World) (hl : es.length ≤ 1000) (hr : RdE w A es) (hab : a ≠ b) (hn : 2 ≤ n ∧ n + 2 ≤ 20)
    (hg : Blk w gg 24 #[.int .i64 n, .slice A es.length c]) (ha : Blk w ga 2 #[.int .i64 a]) (hb : Blk w gb 2 #[.int .i64 b]) :
    Calls Try.prog 45 #[.pointer (some ⟨gg, 0, none⟩), .pointer (some ⟨ga, 0, none⟩), .pointer (some ⟨gb, 0, none⟩)] w fun e w' => ∃ A' c', e = .returned (.slice A' (brL false n a b es es.length).length c') ∧ RdE w' A' (brL false n a b es es.length) ∧ Below w.heap.size w w' := by
  have Hre : Hid (∀ W, Below w.heap.size w W → RdE W A es) := fun W hW => hr.below hW
  have Hlen : Hid (∀ k, 0 < (brL false n a b es k).length ∧ (brL false n a b es k).length ≤ 1 + 2 * k) := brL_len false n a b es
  obtain ⟨m, Hm⟩ : ∃ m, Hid (es.length = m) := ⟨_, rfl⟩
  rw [Hm.out] at hl hg ⊢
  clear hr
  have k0 := hg.cellAt 0 _ rfl
  have k1 := hg.cellAt 1 _ rfl
  have HA := Lib.hid ha
  have HB := Lib.hid hb
  clear ha hb
  obtain ⟨hn0, hn2⟩ := hn
  obtain ⟨n1, Hn1⟩ : ∃ x : Int, Hid (n + 1 = x) := ⟨_, rfl⟩
  have p1 : wrap64 (n + 1) = n1 := by rw [← Hn1.out]; exact wrap64_small (by omega) (by omega)
  have k2 := (hg.alloc (.cells #[.int .i64 n, .int .i64 n1] 54)).cellAt 1 _ rfl
  clear hn0 hn2 hg
  go_enter Try.func45, Try.ntmps45
  go_wp2_with fail
  clear k0 k1 k2
  simp only [p1]
  go_loopw [5, 18] (fun s i wr => ∃ (k : Nat) (L : Nat), k ≤ m ∧ i = .int .i64 k ∧ Hid (L ≤ 2001) ∧ Hid (wr.ownsRow w.heap.size 54 2 s L (cE (brL false n a b es k))) ∧ Hid (Below w.heap.size w wr)) (fun _ i _ => m - (intOf i).toNat)
  case atStart => exact ⟨0, 1, Nat.zero_le _, rfl, by show _ ≤ _; omega, by { show World.ownsRow _ _ _ _ _ _ _; rw [brL_zero, Hn1.out]; exact own_blk (xs := cE [(n, n1)]) (n := 1) (Blk.new' _ rfl) rfl (by decide) }, by show Below _ _ _; (repeat' (first | (with_reducible exact Below.refl _ _) | (with_reducible assumption) | (with_reducible refine Below.alloc ?_ ?_ _) | (with_reducible refine Below.drew ?_) | (with_reducible refine below_drewN ?_ _) | (with_reducible refine Below.setCell ?_ ?_ _) | (with_reducible refine Below.trans ?_ (Below.mono (by assumption) ?_)) | (first | omega | (simp only [World.size_alloc, World.size_setCell, World.size_drew]; omega) | (simp; omega) | (simp; done))))⟩
  case round =>
    obtain ⟨k, L, hk, rfl, HL, Hown, Hbel⟩ := hrel
    obtain ⟨A1, c1, rfl⟩ := own_form Hown.out
    have hsz := Hbel.out.size
    by_cases hlt : k < m
    · obtain ⟨bb, off, rfl, hb, hc⟩ := (Hre.out wr Hbel.out).pos (by rw [Hm.out]; omega)
      obtain ⟨hc0, hc1⟩ := hc k (by rw [Hm.out]; exact hlt)
      obtain ⟨⟨x, y⟩, Hxy⟩ : ∃ x, Hid (es.getD k (0, 0) = x) := ⟨_, rfl⟩
      rw [Hxy.out] at hc0 hc1
      dsimp only at hc0 hc1
      clear hc
      obtain ⟨P, HP⟩ : ∃ P, Hid (brL false n a b es k = P) := ⟨_, rfl⟩
      rw [HP.out] at Hown
      have HPL : Hid (L = P.length) := own_len Hown.out
      have hkm : k ≤ 1000 := by omega
      obtain ⟨ek, ek2, ek3⟩ := idxF k m hlt
      have ka := ((HA.out.below Hbel.out HA.out.lt).alloc (.cells #[.int .i64 x, .int .i64 y] 54)).cellAt 0 _ rfl
      have kb := ((HB.out.below Hbel.out HB.out.lt).alloc (.cells #[.int .i64 x, .int .i64 y] 54)).cellAt 0 _ rfl
      by_cases ha : (k : Int) = a
      · have ga9 : ((k : Int) == a) = true := by simpa using ha
        have Hs : Hid (brL false n a b es (k + 1) = P ++ [(x, n), (n, y)]) := by show _ = _; rw [brL_succ, HP.out, Hxy.out]; simp [br1, ha]
        have Ha := Lib.hid ha; clear ha
        have hown2 := own_below Hown.out (show Below wr.heap.size wr ((wr.alloc (.cells #[.int .i64 x, .int .i64 y] 54)).alloc (.cells #[.int .i64 x, .int .i64 n, .int .i64 n, .int .i64 y] 54)) by (repeat' (first | (with_reducible exact Below.refl _ _) | (with_reducible assumption) | (with_reducible refine Below.alloc ?_ ?_ _) | (with_reducible refine Below.drew ?_) | (with_reducible refine below_drewN ?_ _) | (with_reducible refine Below.setCell ?_ ?_ _) | (with_reducible refine Below.trans ?_ (Below.mono (by assumption) ?_)) | (first | omega | (simp only [World.size_alloc, World.size_setCell, World.size_drew]; omega) | (simp; omega) | (simp; done)))))
        have hB3 : Below w.heap.size w ((wr.alloc (.cells #[.int .i64 x, .int .i64 y] 54)).alloc (.cells #[.int .i64 x, .int .i64 n, .int .i64 n, .int .i64 y] 54)) := by have := Hbel.out; (repeat' (first | (with_reducible exact Below.refl _ _) | (with_reducible assumption) | (with_reducible refine Below.alloc ?_ ?_ _) | (with_reducible refine Below.drew ?_) | (with_reducible refine below_drewN ?_ _) | (with_reducible refine Below.setCell ?_ ?_ _) | (with_reducible refine Below.trans ?_ (Below.mono (by assumption) ?_)) | (first | omega | (simp only [World.size_alloc, World.size_setCell, World.size_drew]; omega) | (simp; omega) | (simp; done))))
        have hnew := blk2_rd (w := (wr.alloc (.cells #[.int .i64 x, .int .i64 y] 54))) (t := 54) (a := (x, n)) (b := (n, y)) (n := wr.heap.size + 1) (by simp)
        go_wp2_with (first
          | (at_builtin; refine wpList_appendE rfl rfl (w.heap.size) _ L P rfl hown2 (wr.heap.size + 1) 0 2 2 [(x, n), (n, y)] rfl rfl hnew (by have := HL.out; omega) (by omega) (by simp; omega) ?_))
        intro v' w3 hown3 hfr hgr
        have Hb3 : Hid (Below w.heap.size w w3) := hfr w.heap.size w (by omega) hB3
        obtain ⟨g3, c3, rfl, _, _⟩ := own_someI hown3 (by omega)
        have Hown3 : Hid (w3.ownsRow (w.heap.size) 54 2 (.slice (some ⟨g3, 0, none⟩) (L + 2) c3) (L + 2) (cE (brL false n a b es (k + 1)))) := by
          show World.ownsRow _ _ _ _ _ _ _
          rw [Hs.out]
          exact hown3
        have HL3 : Hid (L + 2 ≤ 2001) := by show _ ≤ _; have h1 := own_len Hown3.out; have h2 := (Hlen.out (k + 1)).2; omega
        have hk9 : k ≤ 1000 := hkm
        clear hown3 hfr hgr hown2 hnew hB3 Hown Hbel hc0 hc1 hkm ka kb
        go_wp2
        exact ⟨⟨k + 1, L + 2, by omega, by go_num, HL3, Hown3, Hb3⟩, by simp [intOf]; omega⟩
      · have ga9 : ((k : Int) == a) = false := by simpa using ha
        by_cases hb9 : (k : Int) = b
        · have gb9 : ((k : Int) == b) = true := by simpa using hb9
          have Hs : Hid (brL false n a b es (k + 1) = P ++ [(x, n1), (n1, y)]) := by show _ = _; rw [brL_succ, HP.out, Hxy.out, ← Hn1.out]; simp [br1, ha, hb9, hab.symm]
          have Ha := Lib.hid ha; have Hb9 := Lib.hid hb9; clear ha hb9
          have hown2 := own_below Hown.out (show Below wr.heap.size wr ((wr.alloc (.cells #[.int .i64 x, .int .i64 y] 54)).alloc (.cells #[.int .i64 x, .int .i64 n1, .int .i64 n1, .int .i64 y] 54)) by (repeat' (first | (with_reducible exact Below.refl _ _) | (with_reducible assumption) | (with_reducible refine Below.alloc ?_ ?_ _) | (with_reducible refine Below.drew ?_) | (with_reducible refine below_drewN ?_ _) | (with_reducible refine Below.setCell ?_ ?_ _) | (with_reducible refine Below.trans ?_ (Below.mono (by assumption) ?_)) | (first | omega | (simp only [World.size_alloc, World.size_setCell, World.size_drew]; omega) | (simp; omega) | (simp; done)))))
          have hB3 : Below w.heap.size w ((wr.alloc (.cells #[.int .i64 x, .int .i64 y] 54)).alloc (.cells #[.int .i64 x, .int .i64 n1, .int .i64 n1, .int .i64 y] 54)) := by have := Hbel.out; (repeat' (first | (with_reducible exact Below.refl _ _) | (with_reducible assumption) | (with_reducible refine Below.alloc ?_ ?_ _) | (with_reducible refine Below.drew ?_) | (with_reducible refine below_drewN ?_ _) | (with_reducible refine Below.setCell ?_ ?_ _) | (with_reducible refine Below.trans ?_ (Below.mono (by assumption) ?_)) | (first | omega | (simp only [World.size_alloc, World.size_setCell, World.size_drew]; omega) | (simp; omega) | (simp; done))))
          have hnew := blk2_rd (w := (wr.alloc (.cells #[.int .i64 x, .int .i64 y] 54))) (t := 54) (a := (x, n1)) (b := (n1, y)) (n := wr.heap.size + 1) (by simp)
          go_wp2_with (first
            | (at_builtin; refine wpList_appendE rfl rfl (w.heap.size) _ L P rfl hown2 (wr.heap.size + 1) 0 2 2 [(x, n1), (n1, y)] rfl rfl hnew (by have := HL.out; omega) (by omega) (by simp; omega) ?_))
          intro v' w3 hown3 hfr hgr
          have Hb3 : Hid (Below w.heap.size w w3) := hfr w.heap.size w (by omega) hB3
          obtain ⟨g3, c3, rfl, _, _⟩ := own_someI hown3 (by omega)
          have Hown3 : Hid (w3.ownsRow (w.heap.size) 54 2 (.slice (some ⟨g3, 0, none⟩) (L + 2) c3) (L + 2) (cE (brL false n a b es (k + 1)))) := by
            show World.ownsRow _ _ _ _ _ _ _
            rw [Hs.out]
            exact hown3
          have HL3 : Hid (L + 2 ≤ 2001) := by show _ ≤ _; have h1 := own_len Hown3.out; have h2 := (Hlen.out (k + 1)).2; omega
          have hk9 : k ≤ 1000 := hkm
          clear hown3 hfr hgr hown2 hnew hB3 Hown Hbel hc0 hc1 hkm ka kb
          go_wp2
          exact ⟨⟨k + 1, L + 2, by omega, by go_num, HL3, Hown3, Hb3⟩, by simp [intOf]; omega⟩
        · have gb9 : ((k : Int) == b) = false := by simpa using hb9
          have Hs : Hid (brL false n a b es (k + 1) = P ++ [(x, y)]) := by show _ = _; rw [brL_succ, HP.out, Hxy.out]; simp [br1, ha, hb9]
          have hown2 := own_below Hown.out (show Below wr.heap.size wr ((wr.alloc (.cells #[.int .i64 x, .int .i64 y] 54)).alloc (.cells #[.int .i64 x, .int .i64 y] 54)) by (repeat' (first | (with_reducible exact Below.refl _ _) | (with_reducible assumption) | (with_reducible refine Below.alloc ?_ ?_ _) | (with_reducible refine Below.drew ?_) | (with_reducible refine below_drewN ?_ _) | (with_reducible refine Below.setCell ?_ ?_ _) | (with_reducible refine Below.trans ?_ (Below.mono (by assumption) ?_)) | (first | omega | (simp only [World.size_alloc, World.size_setCell, World.size_drew]; omega) | (simp; omega) | (simp; done)))))
          have hB3 : Below w.heap.size w ((wr.alloc (.cells #[.int .i64 x, .int .i64 y] 54)).alloc (.cells #[.int .i64 x, .int .i64 y] 54)) := by have := Hbel.out; (repeat' (first | (with_reducible exact Below.refl _ _) | (with_reducible assumption) | (with_reducible refine Below.alloc ?_ ?_ _) | (with_reducible refine Below.drew ?_) | (with_reducible refine below_drewN ?_ _) | (with_reducible refine Below.setCell ?_ ?_ _) | (with_reducible refine Below.trans ?_ (Below.mono (by assumption) ?_)) | (first | omega | (simp only [World.size_alloc, World.size_setCell, World.size_drew]; omega) | (simp; omega) | (simp; done))))
          have hnew := blk1_rd (w := (wr.alloc (.cells #[.int .i64 x, .int .i64 y] 54))) (t := 54) (a := (x, y)) (n := wr.heap.size + 1) (by simp)
          go_wp2_with (first
            | (at_builtin; refine wpList_appendE rfl rfl (w.heap.size) _ L P rfl hown2 (wr.heap.size + 1) 0 1 1 [(x, y)] rfl rfl hnew (by have := HL.out; omega) (by omega) (by simp; omega) ?_))
          intro v' w3 hown3 hfr hgr
          have Hb3 : Hid (Below w.heap.size w w3) := hfr w.heap.size w (by omega) hB3
          obtain ⟨g3, c3, rfl, _, _⟩ := own_someI hown3 (by omega)
          have Hown3 : Hid (w3.ownsRow (w.heap.size) 54 2 (.slice (some ⟨g3, 0, none⟩) (L + 1) c3) (L + 1) (cE (brL false n a b es (k + 1)))) := by
            show World.ownsRow _ _ _ _ _ _ _
            rw [Hs.out]
            exact hown3
          have HL3 : Hid (L + 1 ≤ 2001) := by show _ ≤ _; have h1 := own_len Hown3.out; have h2 := (Hlen.out (k + 1)).2; omega
          have hk9 : k ≤ 1000 := hkm
          clear hown3 hfr hgr hown2 hnew hB3 Hown Hbel hc0 hc1 hkm ka kb
          go_wp2
          exact ⟨⟨k + 1, L + 1, by omega, by go_num, HL3, Hown3, Hb3⟩, by simp [intOf]; omega⟩
    · obtain rfl : k = m := by omega
      have HLl : Hid (L = (brL false n a b es k).length) := own_len Hown.out
      go_wp2
      go_ret
      rw [← HLl.out]
      exact ⟨A1, c1, rfl, own_rdE Hown.out, Hbel.out⟩
end Go.Proofs.Ytblidpodbpoaeaa
