/- The reference's OpenVertex. No statement of the program is proved here. -/
/- The function value of impl.OpenVertex. No statement of the program is proved here. -/
/- OpenVertex of impl and of the reference, at every input. No statement of the program is proved here. -/
import Derived.Test.YtblidpodbpoaeaaOv3
import Derived.Test.YtblidpodbpoaeaaCl1
import Derived.Test.YtblidpodbpoaeaaMk1
import Derived.Test.YtblidpodbpoaeaaBr2
namespace Go.Proofs.Ytblidpodbpoaeaa
open Go.RowKit
set_option linter.unusedSimpArgs false
set_option linter.unusedVariables false
set_option maxRecDepth 20000

theorem blk3_rd {w : World} {t : TypeId} {a b c : Int × Int} {n : Nat} (hn : n = w.heap.size) : RdE (w.alloc (.cells #[.int .i64 a.1, .int .i64 a.2, .int .i64 b.1, .int .i64 b.2, .int .i64 c.1, .int .i64 c.2] t)) (some ⟨n, 0, none⟩) [a, b, c] :=
  blkE_rd (t := t) (es := [a, b, c]) (Blk.new' _ hn)

set_option maxHeartbeats 2000000 in
/-- The errors. -/
theorem specOpen_err (n : Int) (A : Option Addr) (c : Nat) (es : List (Int × Int)) (v : Int) (w : World) (hl : es.length ≤ 1048576) (hr : RdE w A es) (r : Int) (qg qv : Bool) (hq : Hid (isGraphB n es = qg)) (hv : Hid ([v].all (fun v => inB v 0 (n - 1)) = qv))
    (h : (gcode qg qv = r ∧ r ≠ 0) ∨ (qg = true ∧ qv = true ∧ (2 ≤ n ∧ n ≤ 20) ∧ n + 2 > 20 ∧ r = 3)) :
    Calls Try.prog 19 #[.agg #[.int .i64 n, .slice A es.length c], .int .i64 v] w fun e w' => RetG w' w.heap.size e 0 [] r ∧ Below w.heap.size w w' := by
  have c1 := fun W L (hW : Below w.heap.size w W) (hL : RdI W L [v]) => l06Vertices_b n A c es L 1 [v] W qg qv hq hv hl (by simp) (hr.below hW) hL
  clear hr hq hv
  generalize es.length = m at *
  rcases h with ⟨hc, hv0⟩ | ⟨rfl, rfl, ⟨hn0, hn⟩, hn2, rfl⟩
  · have g1 : (r != 0) = true := by simpa using hv0
    rw [hc] at c1
    go_enter Try.func19, Try.ntmps19
    go_wp2_with fail
    refine (c1 (((w.alloc (.cells #[.int .i64 n, .slice A m c] 24)).alloc (.cells #[.int .i64 0, .slice none 0 0] 24)).alloc (.cells #[.int .i64 v] 2)) (some ⟨w.heap.size + 2, 0, none⟩) (by (repeat' (first | (with_reducible exact Below.refl _ _) | (with_reducible assumption) | (with_reducible refine Below.alloc ?_ ?_ _) | (with_reducible refine Below.drew ?_) | (with_reducible refine below_drewN ?_ _) | (with_reducible refine Below.setCell ?_ ?_ _) | (with_reducible refine Below.trans ?_ (Below.mono (by assumption) ?_)) | (first | omega | (simp only [World.size_alloc, World.size_setCell, World.size_drew]; omega) | (simp; omega) | (simp; done))))) (blkI_rd (t := 2) (xs := [v]) (Blk.new' _ (by simp)))).mono ?_
    rintro e w1 ⟨rfl, hb1⟩
    have HZ := Lib.hid (((Blk.new' (n := w.heap.size + 1) (t := 24) (cs := #[.int .i64 0, .slice none 0 0]) _ (by simp)).alloc _).below hb1 (by simp) : Blk w1 (w.heap.size + 1) 24 #[.int .i64 0, .slice none 0 0])
    have HK := Lib.hid ((((Blk.new w _ _).alloc _).alloc _).below hb1 (by simp; omega) : Blk w1 w.heap.size 24 #[.int .i64 n, .slice A m c])
    have k0 := HK.out.cellAt 0 _ rfl
    have Hb1 : Hid (Below w.heap.size w w1) := by show Below _ _ _; (repeat' (first | (with_reducible exact Below.refl _ _) | (with_reducible assumption) | (with_reducible refine Below.alloc ?_ ?_ _) | (with_reducible refine Below.drew ?_) | (with_reducible refine below_drewN ?_ _) | (with_reducible refine Below.setCell ?_ ?_ _) | (with_reducible refine Below.trans ?_ (Below.mono (by assumption) ?_)) | (first | omega | (simp only [World.size_alloc, World.size_setCell, World.size_drew]; omega) | (simp; omega) | (simp; done))))
    have x0 := HZ.out.cellAt 0 _ rfl
    have x1 : (w1.setCell ⟨w.heap.size + 1, 0, none⟩ (.int .i64 0)).cell? ⟨w.heap.size + 1, 1, none⟩ = some (.slice none 0 0) := (sc_other (by simp)).trans (HZ.out.cellAt 1 _ rfl)
    have f0 := HZ.out.frozen 0
    have f1 := HZ.out.frozen 1
    clear hb1
    go_wp2
    refine ret_cell_tmp Try.results19 Try.underlying24 rfl (by kernel_rfl) rfl ((HZ.out.set_ 0 (.int .i64 0)).set_ 1 (.slice none 0 0)) rfl rfl ⟨⟨none, 0, rfl, FrE.nil⟩, (Hb1.out.setCell (by show w.heap.size ≤ w.heap.size + 1; omega) _).setCell (by show w.heap.size ≤ w.heap.size + 1; omega) _⟩
  · have g2 : decide (n + 2 > 20) = true := by simpa using hn2
    have p2 : wrap64 (n + 2) = n + 2 := wrap64_small (by omega) (by omega)
    go_enter Try.func19, Try.ntmps19
    go_wp2_with fail
    refine (c1 (((w.alloc (.cells #[.int .i64 n, .slice A m c] 24)).alloc (.cells #[.int .i64 0, .slice none 0 0] 24)).alloc (.cells #[.int .i64 v] 2)) (some ⟨w.heap.size + 2, 0, none⟩) (by (repeat' (first | (with_reducible exact Below.refl _ _) | (with_reducible assumption) | (with_reducible refine Below.alloc ?_ ?_ _) | (with_reducible refine Below.drew ?_) | (with_reducible refine below_drewN ?_ _) | (with_reducible refine Below.setCell ?_ ?_ _) | (with_reducible refine Below.trans ?_ (Below.mono (by assumption) ?_)) | (first | omega | (simp only [World.size_alloc, World.size_setCell, World.size_drew]; omega) | (simp; omega) | (simp; done))))) (blkI_rd (t := 2) (xs := [v]) (Blk.new' _ (by simp)))).mono ?_
    rintro e w1 ⟨rfl, hb1⟩
    have HZ := Lib.hid (((Blk.new' (n := w.heap.size + 1) (t := 24) (cs := #[.int .i64 0, .slice none 0 0]) _ (by simp)).alloc _).below hb1 (by simp) : Blk w1 (w.heap.size + 1) 24 #[.int .i64 0, .slice none 0 0])
    have HK := Lib.hid ((((Blk.new w _ _).alloc _).alloc _).below hb1 (by simp; omega) : Blk w1 w.heap.size 24 #[.int .i64 n, .slice A m c])
    have k0 := HK.out.cellAt 0 _ rfl
    have Hb1 : Hid (Below w.heap.size w w1) := by show Below _ _ _; (repeat' (first | (with_reducible exact Below.refl _ _) | (with_reducible assumption) | (with_reducible refine Below.alloc ?_ ?_ _) | (with_reducible refine Below.drew ?_) | (with_reducible refine below_drewN ?_ _) | (with_reducible refine Below.setCell ?_ ?_ _) | (with_reducible refine Below.trans ?_ (Below.mono (by assumption) ?_)) | (first | omega | (simp only [World.size_alloc, World.size_setCell, World.size_drew]; omega) | (simp; omega) | (simp; done))))
    have x0 := HZ.out.cellAt 0 _ rfl
    have x1 : (w1.setCell ⟨w.heap.size + 1, 0, none⟩ (.int .i64 0)).cell? ⟨w.heap.size + 1, 1, none⟩ = some (.slice none 0 0) := (sc_other (by simp)).trans (HZ.out.cellAt 1 _ rfl)
    have f0 := HZ.out.frozen 0
    have f1 := HZ.out.frozen 1
    clear hb1
    go_wp2
    refine ret_cell_tmp Try.results19 Try.underlying24 rfl (by kernel_rfl) rfl ((HZ.out.set_ 0 (.int .i64 0)).set_ 1 (.slice none 0 0)) rfl rfl ⟨⟨none, 0, rfl, FrE.nil⟩, (Hb1.out.setCell (by show w.heap.size ≤ w.heap.size + 1; omega) _).setCell (by show w.heap.size ≤ w.heap.size + 1; omega) _⟩

set_option maxHeartbeats 8000000 in
/-- The graph. -/
theorem specOpen_yes (n : Int) (A : Option Addr) (c : Nat) (es : List (Int × Int)) (v : Int) (w : World) (hl : es.length ≤ 1000) (hr : RdE w A es) (hq : Hid (isGraphB n es = true)) (hv : Hid ([v].all (fun v => inB v 0 (n - 1)) = true)) (hn : 2 ≤ n ∧ n + 2 ≤ 20) (a0 a b : Nat) (hat : atL es v = [(a0 : Int), (a : Int), (b : Int)]) (hab : a < b) :
    Calls Try.prog 19 #[.agg #[.int .i64 n, .slice A es.length c], .int .i64 v] w fun e w' => RetG w' w.heap.size e (n + 2) (madeE (ovS n es v a b)) 0 ∧ Below w.heap.size w w' := by
  have c1 := fun W L (hW : Below w.heap.size w W) (hL : RdI W L [v]) => l06Vertices_b n A c es L 1 [v] W true true hq hv (by omega) (by simp) (hr.below hW) hL
  have c2 := fun W (hW : Below w.heap.size w W) => l01At_b n A c es v W (by omega) (hr.below hW)
  have hvb : 0 ≤ v ∧ v ≤ 20 := by
    have h1 := hv.out
    simp only [List.all_cons, List.all_nil, Bool.and_true] at h1
    have h2 := inB_true.1 h1
    omega
  have c3 := Lib.hid fun W k o (ho : Hid (othE es v k = o)) (hk : k < es.length) (hW : Below w.heap.size w W) => l01Other_b n A c es k v W o ho hk (by omega) (by have := graph_bounds hq.out hk; omega) (by have := graph_bounds hq.out hk; omega) (by omega) (hr.below hW)
  have Hre : Hid (∀ W, Below w.heap.size w W → RdE W A es) := fun W hW => hr.below hW
  rw [hat] at c2
  obtain ⟨m, Hm⟩ : ∃ m, Hid (es.length = m) := ⟨_, rfl⟩
  rw [Hm.out] at hl c1 c2 c3
  simp only [List.length_cons, List.length_nil, Nat.zero_add, Nat.reduceAdd] at c2
  have c2 := Lib.hid c2
  rw [Hm.out]
  have HL : Hid ((ovS n es v a b).length = m + 3) := by show _ = _; rw [ovS_len, Hm.out]
  clear hr hq hv hat
  obtain ⟨hn0, hn2⟩ := hn
  have g2 : decide (n + 2 > 20) = false := by simp; omega
  obtain ⟨n1, Hn1⟩ : ∃ x : Int, Hid (n + 1 = x) := ⟨_, rfl⟩
  have p1 : wrap64 (n + 1) = n1 := by rw [← Hn1.out]; exact wrap64_small (by omega) (by omega)
  have p2 : wrap64 (n + 2) = n + 2 := wrap64_small (by omega) (by omega)
  have Hbn : Hid (2 ≤ n ∧ n + 2 ≤ 20) := ⟨hn0, hn2⟩
  have Hvb := Lib.hid hvb
  have Hl := Lib.hid hl
  clear hn0 hn2 hvb hl
  rw [show gcode true true = 0 from rfl] at c1
  go_enter Try.func19, Try.ntmps19
  go_wp2_with fail
  refine (c1 (((w.alloc (.cells #[.int .i64 n, .slice A m c] 24)).alloc (.cells #[.int .i64 0, .slice none 0 0] 24)).alloc (.cells #[.int .i64 v] 2)) (some ⟨w.heap.size + 2, 0, none⟩) (by (repeat' (first | (with_reducible exact Below.refl _ _) | (with_reducible assumption) | (with_reducible refine Below.alloc ?_ ?_ _) | (with_reducible refine Below.drew ?_) | (with_reducible refine below_drewN ?_ _) | (with_reducible refine Below.setCell ?_ ?_ _) | (with_reducible refine Below.trans ?_ (Below.mono (by assumption) ?_)) | (first | omega | (simp only [World.size_alloc, World.size_setCell, World.size_drew]; omega) | (simp; omega) | (simp; done))))) (blkI_rd (t := 2) (xs := [v]) (Blk.new' _ (by simp)))).mono ?_
  rintro e w1 ⟨rfl, hb1⟩
  have HZ := Lib.hid (((Blk.new' (n := w.heap.size + 1) (t := 24) (cs := #[.int .i64 0, .slice none 0 0]) _ (by simp)).alloc _).below hb1 (by simp) : Blk w1 (w.heap.size + 1) 24 #[.int .i64 0, .slice none 0 0])
  have HK := Lib.hid ((((Blk.new w _ _).alloc _).alloc _).below hb1 (by simp; omega) : Blk w1 w.heap.size 24 #[.int .i64 n, .slice A m c])
  have k0 := HK.out.cellAt 0 _ rfl
  have Hb1 : Hid (Below w.heap.size w w1) := by show Below _ _ _; (repeat' (first | (with_reducible exact Below.refl _ _) | (with_reducible assumption) | (with_reducible refine Below.alloc ?_ ?_ _) | (with_reducible refine Below.drew ?_) | (with_reducible refine below_drewN ?_ _) | (with_reducible refine Below.setCell ?_ ?_ _) | (with_reducible refine Below.trans ?_ (Below.mono (by assumption) ?_)) | (first | omega | (simp only [World.size_alloc, World.size_setCell, World.size_drew]; omega) | (simp; omega) | (simp; done))))
  have k1 := HK.out.cellAt 1 _ rfl
  have z1 := HZ.out.lt
  clear hb1 c1
  go_wp2_with fail
  refine (c2.out w1 Hb1.out).mono ?_
  rintro e w2 ⟨A2, c9, rfl, hown2, hb2⟩
  have HA2 : Hid (RdI w2 A2 [(a0 : Int), (a : Int), (b : Int)]) := own_rdI hown2
  have HZ2 := Lib.hid (HZ.out.below hb2 z1)
  have HK2 := Lib.hid (HK.out.below hb2 (by omega))
  have Hb2 : Hid (Below w.heap.size w w2) := Hb1.out.trans (hb2.mono (by omega))
  have z2 := HZ2.out.lt
  clear hown2 hb2 HZ HK Hb1 k0 k1 c2 z1
  go_wp2_with fail
  try simp only [p2]
  go_loopw [8, 9] (fun s i wr => ∃ (k : Nat), k ≤ m ∧ i = .int .i64 k ∧ Hid (wr.ownsRow w2.heap.size 54 2 s k (cE (ovK n es v a b k))) ∧ Hid (Below w2.heap.size w2 wr)) (fun _ i _ => m - (intOf i).toNat)
  case atStart => exact ⟨0, Nat.zero_le _, rfl, own_blk (xs := []) (Blk.new' (n := w2.heap.size) (t := 54) (cs := #[]) _ rfl) (by simp) (by decide), by show Below _ _ _; (repeat' (first | (with_reducible exact Below.refl _ _) | (with_reducible assumption) | (with_reducible refine Below.alloc ?_ ?_ _) | (with_reducible refine Below.drew ?_) | (with_reducible refine below_drewN ?_ _) | (with_reducible refine Below.setCell ?_ ?_ _) | (with_reducible refine Below.trans ?_ (Below.mono (by assumption) ?_)) | (first | omega | (simp only [World.size_alloc, World.size_setCell, World.size_drew]; omega) | (simp; omega) | (simp; done))))⟩
  case round =>
    obtain ⟨k, hk, rfl, Hown, Hbel⟩ := hrel
    obtain ⟨A1, c1, rfl⟩ := own_form Hown.out
    have hsz := Hbel.out.size
    have k0 := (HK2.out.below Hbel.out (by omega)).cellAt 0 _ rfl
    have k1 := (HK2.out.below Hbel.out (by omega)).cellAt 1 _ rfl
    have Hbw : Hid (Below w.heap.size w wr) := Hb2.out.trans (Hbel.out.mono (by omega))
    by_cases hlt : k < m
    · obtain ⟨ek, ek2, ek3⟩ := idxF k m hlt
      have Hkm : Hid (k ≤ 1000) := by show _ ≤ _; have := Hl.out; omega
      obtain ⟨o, Ho⟩ : ∃ o, Hid (othE es v k = o) := ⟨_, rfl⟩
      go_wp2_with fail
      refine (c3.out wr k o Ho hlt Hbw.out).mono ?_
      rintro e w3 ⟨rfl, hb3⟩
      clear k0 k1
      have hb23 : Below w2.heap.size w2 w3 := Hbel.out.trans (hb3.mono hsz)
      have k0 := (HK2.out.below hb23 (by omega)).cellAt 0 _ rfl
      have k1 := (HK2.out.below hb23 (by omega)).cellAt 1 _ rfl
      have hs3 := hb3.size
      obtain ⟨bA, oA, rfl, _, hcA⟩ := (HA2.out.below hb23).pos (by simp)
      have y0 : w3.cell? ⟨bA, oA + 1, none⟩ = some (.int .i64 (a : Int)) := hcA 1 (by simp)
      have y1 : w3.cell? ⟨bA, oA + 2, none⟩ = some (.int .i64 (b : Int)) := hcA 2 (by simp)
      clear hcA
      obtain ⟨bb, off, rfl, _, hc⟩ := (Hre.out w3 (Hb2.out.trans (hb23.mono (by omega)))).pos (by rw [Hm.out]; omega)
      obtain ⟨hc0, hc1⟩ := hc k (by rw [Hm.out]; exact hlt)
      clear hc hb23
      by_cases ha9 : (k : Int) = a
      · have q1 : ((k : Int) == (a : Int)) = true := by simpa using ha9
        have hb9 : (0 : Int) = 0 := rfl
        have q2 := hb9
        have Hs : Hid (ovK n es v a b (k + 1) = ovK n es v a b k ++ [(n, o)]) := by show _ = _; rw [ovK_succ, ov1]; rw [if_pos ha9, Ho.out]
        clear ha9 hb9
        have hown8 := own_below (own_below Hown.out hb3) (show Below w3.heap.size w3 (w3.alloc (.cells #[.int .i64 n, .int .i64 o] 54)) by (repeat' (first | (with_reducible exact Below.refl _ _) | (with_reducible assumption) | (with_reducible refine Below.alloc ?_ ?_ _) | (with_reducible refine Below.drew ?_) | (with_reducible refine below_drewN ?_ _) | (with_reducible refine Below.setCell ?_ ?_ _) | (with_reducible refine Below.trans ?_ (Below.mono (by assumption) ?_)) | (first | omega | (simp only [World.size_alloc, World.size_setCell, World.size_drew]; omega) | (simp; omega) | (simp; done)))))
        have hnew8 := blk1_rd (w := w3) (t := 54) (a := (n, o)) (n := w3.heap.size) rfl
        go_wp2_with (first
          | (at_builtin; refine wpList_appendE rfl rfl (w2.heap.size) _ (k) (ovK n es v a b k) rfl hown8 w3.heap.size 0 1 1 [(n, o)] rfl rfl hnew8 (by have := Hkm.out; omega) (by omega) (by simp; omega) ?_))
        intro v9 w5 hown9 hfr9 hgr9
        have hb9 := hfr9 (w2.heap.size) _ (Nat.le_refl _) (Below.alloc (Below.refl (w2.heap.size) w3) (by omega) (.cells #[.int .i64 n, .int .i64 o] 54))
        obtain ⟨g9, c9, rfl, _, _⟩ := own_someI hown9 (by omega)
        have Hown9 : Hid (w5.ownsRow (w2.heap.size) 54 2 (.slice (some ⟨g9, 0, none⟩) (k + 1) c9) (k + 1) (cE (ovK n es v a b (k + 1)))) := by
          show World.ownsRow _ _ _ _ _ _ _
          rw [Hs.out]
          exact hown9
        clear hown9 hfr9 hgr9 hown8 hnew8
        have Hb5 : Hid (Below w2.heap.size w2 w5) := Hbel.out.trans ((hb3.mono hsz).trans hb9)
        have hk9 : k ≤ 1000 := Hkm.out
        clear hb9 hb3 Hown Hbel y0 y1 hc0 hc1 q1 q2
        go_wp2
        exact ⟨⟨k + 1, by omega, by go_num, Hown9, Hb5⟩, by simp [intOf]; omega⟩
      · have q1 : ((k : Int) == (a : Int)) = false := by simpa using ha9
        by_cases hb9 : (k : Int) = b
        · have q2 : ((k : Int) == (b : Int)) = true := by simpa using hb9
          have Hs : Hid (ovK n es v a b (k + 1) = ovK n es v a b k ++ [(n1, o)]) := by show _ = _; rw [ovK_succ, ov1]; rw [if_neg ha9, if_pos hb9, Ho.out, Hn1.out]
          clear ha9 hb9
          have hown8 := own_below (own_below Hown.out hb3) (show Below w3.heap.size w3 (w3.alloc (.cells #[.int .i64 n1, .int .i64 o] 54)) by (repeat' (first | (with_reducible exact Below.refl _ _) | (with_reducible assumption) | (with_reducible refine Below.alloc ?_ ?_ _) | (with_reducible refine Below.drew ?_) | (with_reducible refine below_drewN ?_ _) | (with_reducible refine Below.setCell ?_ ?_ _) | (with_reducible refine Below.trans ?_ (Below.mono (by assumption) ?_)) | (first | omega | (simp only [World.size_alloc, World.size_setCell, World.size_drew]; omega) | (simp; omega) | (simp; done)))))
          have hnew8 := blk1_rd (w := w3) (t := 54) (a := (n1, o)) (n := w3.heap.size) rfl
          go_wp2_with (first
            | (at_builtin; refine wpList_appendE rfl rfl (w2.heap.size) _ (k) (ovK n es v a b k) rfl hown8 w3.heap.size 0 1 1 [(n1, o)] rfl rfl hnew8 (by have := Hkm.out; omega) (by omega) (by simp; omega) ?_))
          intro v9 w5 hown9 hfr9 hgr9
          have hb9 := hfr9 (w2.heap.size) _ (Nat.le_refl _) (Below.alloc (Below.refl (w2.heap.size) w3) (by omega) (.cells #[.int .i64 n1, .int .i64 o] 54))
          obtain ⟨g9, c9, rfl, _, _⟩ := own_someI hown9 (by omega)
          have Hown9 : Hid (w5.ownsRow (w2.heap.size) 54 2 (.slice (some ⟨g9, 0, none⟩) (k + 1) c9) (k + 1) (cE (ovK n es v a b (k + 1)))) := by
            show World.ownsRow _ _ _ _ _ _ _
            rw [Hs.out]
            exact hown9
          clear hown9 hfr9 hgr9 hown8 hnew8
          have Hb5 : Hid (Below w2.heap.size w2 w5) := Hbel.out.trans ((hb3.mono hsz).trans hb9)
          have hk9 : k ≤ 1000 := Hkm.out
          clear hb9 hb3 Hown Hbel y0 y1 hc0 hc1 q1 q2
          go_wp2
          exact ⟨⟨k + 1, by omega, by go_num, Hown9, Hb5⟩, by simp [intOf]; omega⟩
        · have q2 : ((k : Int) == (b : Int)) = false := by simpa using hb9
          obtain ⟨⟨x, y⟩, Hxy⟩ : ∃ x, Hid (es.getD k (0, 0) = x) := ⟨_, rfl⟩
          rw [Hxy.out] at hc0 hc1
          dsimp only at hc0 hc1
          have Hs : Hid (ovK n es v a b (k + 1) = ovK n es v a b k ++ [(x, y)]) := by show _ = _; rw [ovK_succ, ov1]; rw [if_neg ha9, if_neg hb9, Hxy.out]
          clear ha9 hb9
          have hown8 := own_below (own_below Hown.out hb3) (show Below w3.heap.size w3 (w3.alloc (.cells #[.int .i64 x, .int .i64 y] 54)) by (repeat' (first | (with_reducible exact Below.refl _ _) | (with_reducible assumption) | (with_reducible refine Below.alloc ?_ ?_ _) | (with_reducible refine Below.drew ?_) | (with_reducible refine below_drewN ?_ _) | (with_reducible refine Below.setCell ?_ ?_ _) | (with_reducible refine Below.trans ?_ (Below.mono (by assumption) ?_)) | (first | omega | (simp only [World.size_alloc, World.size_setCell, World.size_drew]; omega) | (simp; omega) | (simp; done)))))
          have hnew8 := blk1_rd (w := w3) (t := 54) (a := (x, y)) (n := w3.heap.size) rfl
          go_wp2_with (first
            | (at_builtin; refine wpList_appendE rfl rfl (w2.heap.size) _ (k) (ovK n es v a b k) rfl hown8 w3.heap.size 0 1 1 [(x, y)] rfl rfl hnew8 (by have := Hkm.out; omega) (by omega) (by simp; omega) ?_))
          intro v9 w5 hown9 hfr9 hgr9
          have hb9 := hfr9 (w2.heap.size) _ (Nat.le_refl _) (Below.alloc (Below.refl (w2.heap.size) w3) (by omega) (.cells #[.int .i64 x, .int .i64 y] 54))
          obtain ⟨g9, c9, rfl, _, _⟩ := own_someI hown9 (by omega)
          have Hown9 : Hid (w5.ownsRow (w2.heap.size) 54 2 (.slice (some ⟨g9, 0, none⟩) (k + 1) c9) (k + 1) (cE (ovK n es v a b (k + 1)))) := by
            show World.ownsRow _ _ _ _ _ _ _
            rw [Hs.out]
            exact hown9
          clear hown9 hfr9 hgr9 hown8 hnew8
          have Hb5 : Hid (Below w2.heap.size w2 w5) := Hbel.out.trans ((hb3.mono hsz).trans hb9)
          have hk9 : k ≤ 1000 := Hkm.out
          clear hb9 hb3 Hown Hbel y0 y1 hc0 hc1 q1 q2
          go_wp2
          exact ⟨⟨k + 1, by omega, by go_num, Hown9, Hb5⟩, by simp [intOf]; omega⟩
    · obtain rfl : k = m := by omega
      have Hs : Hid (ovS n es v a b = ovK n es v a b k ++ [(v, n), (v, n1), (n, n1)]) := by show _ = _; rw [ovS, Hm.out, Hn1.out]
      have Hkm : Hid (k ≤ 1000) := Hl.out
      have hown8 := own_below (Hown.out) (show Below wr.heap.size wr (wr.alloc (.cells #[.int .i64 v, .int .i64 n, .int .i64 v, .int .i64 n1, .int .i64 n, .int .i64 n1] 54)) by (repeat' (first | (with_reducible exact Below.refl _ _) | (with_reducible assumption) | (with_reducible refine Below.alloc ?_ ?_ _) | (with_reducible refine Below.drew ?_) | (with_reducible refine below_drewN ?_ _) | (with_reducible refine Below.setCell ?_ ?_ _) | (with_reducible refine Below.trans ?_ (Below.mono (by assumption) ?_)) | (first | omega | (simp only [World.size_alloc, World.size_setCell, World.size_drew]; omega) | (simp; omega) | (simp; done)))))
      have hnew8 := blk3_rd (w := wr) (t := 54) (a := (v, n)) (b := (v, n1)) (c := (n, n1)) (n := wr.heap.size) rfl
      go_wp2_with (first
        | (at_builtin; refine wpList_appendE rfl rfl (w2.heap.size) _ (k) (ovK n es v a b k) rfl hown8 wr.heap.size 0 3 3 [(v, n), (v, n1), (n, n1)] rfl rfl hnew8 (by have := Hkm.out; omega) (by omega) (by simp; omega) ?_))
      intro v9 w5 hown9 hfr9 hgr9
      have hb9 := hfr9 (w2.heap.size) _ (Nat.le_refl _) (Below.alloc (Below.refl (w2.heap.size) wr) (by omega) (.cells #[.int .i64 v, .int .i64 n, .int .i64 v, .int .i64 n1, .int .i64 n, .int .i64 n1] 54))
      obtain ⟨g9, c9, rfl, _, _⟩ := own_someI hown9 (by omega)
      have Hown9 : Hid (w5.ownsRow (w2.heap.size) 54 2 (.slice (some ⟨g9, 0, none⟩) (k + 3) c9) (k + 3) (cE (ovS n es v a b))) := by
        show World.ownsRow _ _ _ _ _ _ _
        rw [Hs.out]
        exact hown9
      clear hown9 hfr9 hgr9 hown8 hnew8
      have Hb5 : Hid (Below w2.heap.size w2 w5) := Hbel.out.trans hb9
      have HZ5 := Lib.hid (HZ2.out.below Hb5.out z2)
      have HK5 := Lib.hid (HK2.out.below Hb5.out (by omega))
      have Hbw5 : Hid (Below w.heap.size w w5) := Hb2.out.trans (Hb5.out.mono (by omega))
      have l0 := HK5.out.cellAt 0 _ rfl
      have s5 := HZ5.out.lt
      have cm := Lib.hid (l01Made_b (n + 2) (some ⟨g9, 0, none⟩) c9 (ovS n es v a b) w5 (by rw [HL.out]; have := Hkm.out; omega) (own_rdE Hown9.out))
      rw [HL.out] at cm
      clear hb9 Hown Hbel Hown9 k0 k1 Hbw
      go_wp2_with fail
      refine cm.out.mono ?_
      rintro e w6 ⟨A3, c3, rfl, hF, hb6⟩
      have hZ6 := HZ5.out.below hb6 s5
      have x0 := hZ6.cellAt 0 _ rfl
      have x1 : (w6.setCell ⟨w.heap.size + 1, 0, none⟩ (.int .i64 (n + 2))).cell? ⟨w.heap.size + 1, 1, none⟩ = some (.slice none 0 0) := (sc_other (by simp)).trans (hZ6.cellAt 1 _ rfl)
      have f0 := hZ6.frozen 0
      have f1 := hZ6.frozen 1
      have HZ6 := Lib.hid hZ6
      have HF := Lib.hid hF
      have Hb6 : Hid (Below w.heap.size w w6) := Hbw5.out.trans (hb6.mono (by omega))
      clear hZ6 hF hb6 cm l0
      go_wp2
      refine ret_cell_tmp Try.results19 Try.underlying24 rfl (by kernel_rfl) rfl ((HZ6.out.set_ 0 (.int .i64 (n + 2))).set_ 1 (.slice A3 (k + 3) c3)) rfl rfl ⟨⟨A3, c3, ?_, FrE.mono (n0 := w5.heap.size) ?_ (by omega)⟩, (Hb6.out.setCell (by show w.heap.size ≤ w.heap.size + 1; omega) _).setCell (by show w.heap.size ≤ w.heap.size + 1; omega) _⟩
      · rw [madeE_len, HL.out]; rfl
      · exact HF.out.away (((Only.refl _ _).set 0 _).set 1 _ : Only (some ⟨w.heap.size + 1, 0, none⟩) w6 _) s5
end Go.Proofs.Ytblidpodbpoaeaa
namespace Go.Proofs.Ytblidpodbpoaeaa
open Go.RowKit
set_option linter.unusedSimpArgs false
set_option linter.unusedVariables false
set_option maxRecDepth 20000

theorem ent_open1 : Ent 50 := enters_of Try.func50 (by kernel_rfl) rfl
theorem own_cap {w : World} {base : Nat} {e : TypeId} {size n c g : Nat} {xs : List Value} (h : w.ownsRow base e size (.slice (some ⟨g, 0, none⟩) n c) n xs) : n ≤ c ∧ c ≤ maxLen ∧ base ≤ g := by
  rcases h.2 with ⟨h1, _⟩ | ⟨g', cap, cur, hv, hge, hh, h6, h7, h8, ht⟩
  · cases h1
  · injection hv with h1 h2 h3
    injection h1 with h1
    injection h1 with h1 _ _
    subst h1; subst h3
    exact ⟨h6, h7, hge⟩

set_option maxHeartbeats 8000000 in
/-- The function value that OpenVertex hands to limited. -/
theorem open1_b (gg gv : Nat) (n : Int) (A : Option Addr) (c : Nat) (es : List (Int × Int)) (v : Int) (w : World) (hl : es.length ≤ 1000) (hr : RdE w A es) (hq : Hid (isGraphB n es = true)) (hv : Hid (inB v 0 (n - 1) = true)) (a0 a b : Nat) (hat : atL es v = [(a0 : Int), (a : Int), (b : Int)]) (hab : a < b) (hbl : b < es.length)
    (hg : Blk w gg 24 #[.int .i64 n, .slice A es.length c]) (hgv : Blk w gv 2 #[.int .i64 v]) :
    Calls Try.prog 50 #[.pointer (some ⟨gg, 0, none⟩), .pointer (some ⟨gv, 0, none⟩)] w fun e w' => ∃ A' c', e = .returned (.slice A' (ovI n es v a b).length c') ∧ RdE w' A' (ovI n es v a b) ∧ Below w.heap.size w w' := by
  have hn := isGraphB_n hq.out
  have hvb := inB_true.1 hv.out
  have cc := cloneE_b A c es w (by omega) (by omega) hr
  have ca := fun W (hW : Below w.heap.size w W) => at_own n A c es v W (by omega) (hr.below hW)
  rw [hat] at ca
  simp only [List.length_cons, List.length_nil, Nat.zero_add, Nat.reduceAdd] at ca
  have Ca := Lib.hid ca
  obtain ⟨bb, off, rfl, hbb, _⟩ := hr.pos (by omega)
  have Hre : Hid (∀ W, Below w.heap.size w W → RdE W (some ⟨bb, off, none⟩) es) := fun W hW => hr.below hW
  have Hbd : Hid (∀ k, k < es.length → (0 ≤ (es.getD k (0, 0)).1 ∧ (es.getD k (0, 0)).1 ≤ 20) ∧ (0 ≤ (es.getD k (0, 0)).2 ∧ (es.getD k (0, 0)).2 ≤ 20)) := fun k hk => graph_bounds hq.out hk
  obtain ⟨m, Hm⟩ : ∃ m, Hid (es.length = m) := ⟨_, rfl⟩
  rw [Hm.out] at hl cc Ca hg hbl
  have HL : Hid ((ovI n es v a b).length = m + 3) := by show _ = _; rw [ovI_len, Hm.out]
  rw [HL.out]
  obtain ⟨n1, Hn1⟩ : ∃ x : Int, Hid (n + 1 = x) := ⟨_, rfl⟩
  have P1 : Hid (wrap64 (n + 1) = n1) := by show _ = _; rw [← Hn1.out]; exact wrap64_small (by omega) (by omega)
  have K0 : Hid (IntKind.i64.wrap (n + ((0 : Nat) : Int)) = n) := by show _ = _; rw [show n + ((0 : Nat) : Int) = n by omega]; exact IntWalk.i64_in _ (by omega)
  have K1 : Hid (IntKind.i64.wrap (n + ((1 : Nat) : Int)) = n1) := by show _ = _; rw [show n + ((1 : Nat) : Int) = n + 1 by omega, IntWalk.i64_in _ (by omega)]; exact Hn1.out
  have HG := Lib.hid hg
  have HV := Lib.hid hgv
  have Hhl := Lib.hid hl
  have Hvb : Hid (0 ≤ v ∧ v ≤ 20) := by show _ ∧ _; omega
  have Hab := Lib.hid hab
  have Hbl := Lib.hid hbl
  have zg := hg.lt
  have zv := hgv.lt
  have k1 := HG.out.cellAt 1 _ rfl
  clear hg hgv hr hq hv hat hn hvb ca hl hab hbl
  go_enter Try.func50, Try.ntmps50
  go_wp2_with fail
  refine cc.mono ?_
  rintro e w1 ⟨g, c1, rfl, hown1, hb1⟩
  obtain ⟨hc1a, hc1b, hgb⟩ := own_cap hown1
  clear k1 cc
  have k0 := (HG.out.below hb1 zg).cellAt 0 _ rfl
  have k1 := (HG.out.below hb1 zg).cellAt 1 _ rfl
  have kv := (HV.out.below hb1 zv).cellAt 0 _ rfl
  have Hown1 := Lib.hid hown1
  have s1 := hb1.size
  clear hown1
  go_wp2_with fail
  refine (Ca.out w1 hb1).mono ?_
  rintro e w2 ⟨A2, c2, rfl, hown2, hb2⟩
  obtain ⟨g2, c2', hv2, hg2, hg2'⟩ := own_someI hown2 (by omega)
  injection hv2 with hv2 _ hv3
  subst hv2; subst hv3
  have hc2 := (own_cap hown2).1
  have HF2 : Hid (FrI w2 w1.heap.size (some ⟨g2, 0, none⟩) [(a0 : Int), (a : Int), (b : Int)]) := own_frI hown2
  have Hb2 : Hid (Below w.heap.size w w2) := hb1.trans (hb2.mono s1)
  have hglt : g < w1.heap.size := (Hown1.out.lt g rfl).2
  have HownJ : Hid (w2.ownsRow w.heap.size 54 2 (.slice (some ⟨g, 0, none⟩) m c1) m (cE (ovJ n es v a b 0))) := own_below Hown1.out hb2
  have s2 := hb2.size
  clear hown2 hb2 hb1 k0 k1 kv Hown1 Ca
  have o1 : (1 : Nat) ≤ 3 := by omega
  go_wp2_with fail
  go_loopw [14] (fun i wr => ∃ (j : Nat), j ≤ 2 ∧ i = .int .i64 j ∧ Hid (wr.ownsRow w.heap.size 54 2 (.slice (some ⟨g, 0, none⟩) m c1) m (cE (ovJ n es v a b j))) ∧ Hid (Only (some ⟨g, 0, none⟩) w2 wr)) (fun i _ => 2 - (intOf i).toNat)
  case atStart => exact ⟨0, by omega, rfl, HownJ, Only.refl _ _⟩
  case round =>
    clear HownJ
    obtain ⟨j, hj, rfl, Hown, Honly⟩ := hrel
    have Hbw : Hid (Below w.heap.size w wr) := Hb2.out.trans (Honly.out.below hgb (by omega))
    have k0 := (HG.out.below Hbw.out zg).cellAt 0 _ rfl
    have k1 := (HG.out.below Hbw.out zg).cellAt 1 _ rfl
    have kv := (HV.out.below Hbw.out zv).cellAt 0 _ rfl
    have sr := Hbw.out.size
    by_cases hlt : j < 2
    · obtain ⟨i, hi, hiE, hJ⟩ : ∃ i : Nat, i < m ∧ [(a0 : Int), (a : Int), (b : Int)].getD (j + 1) 0 = (i : Int) ∧ ovJ n es v a b (j + 1) = (ovJ n es v a b j).set i (othE es v i, n + (j : Int)) := by
        have h1 := Hab.out; have h2 := Hbl.out
        by_cases h : j = 0
        · subst h; exact ⟨a, by omega, rfl, by simp [ovJ]⟩
        · obtain rfl : j = 1 := by omega
          exact ⟨b, by omega, rfl, by simp [ovJ]⟩
      have HJ := Lib.hid hJ
      obtain ⟨b2, o2, e2, _, hy⟩ := (HF2.out.away Honly.out hglt).rd.pos (by simp)
      have hy1 := hy (j + 1) (by simp; omega)
      rw [hiE] at hy1
      injection e2 with e2
      injection e2 with e2 e3 _
      subst e2; subst e3
      have hyy : wr.cell? ⟨g2, 1 + j, none⟩ = some (.int .i64 (i : Int)) := by rw [show 1 + j = 0 + (j + 1) by omega]; exact hy1
      clear hy hy1 hiE hJ
      obtain ⟨b9, o9, e9, _, hc⟩ := (Hre.out wr Hbw.out).pos (by rw [Hm.out]; omega)
      injection e9 with e9
      injection e9 with e9 e10 _
      subst e9; subst e10
      obtain ⟨hc0, hc1'⟩ := hc i (by rw [Hm.out]; exact hi)
      have hxb := Hbd.out i (by rw [Hm.out]; exact hi)
      obtain ⟨o, Ho⟩ : ∃ o, Hid (othE es v i = o) := ⟨_, rfl⟩
      have Ho2 := Lib.hid Ho.out
      unfold othE at Ho2
      clear hc
      generalize es.getD i (0, 0) = xy at *
      obtain ⟨x, y⟩ := xy
      dsimp only at hc0 hc1' hxb Ho2
      obtain ⟨nj, Hnj⟩ : ∃ x : Int, Hid (n + (j : Int) = x) := ⟨_, rfl⟩
      have Wj : Hid (IntKind.i64.wrap (n + (j : Int)) = nj) := by
        show _ = _
        rw [← Hnj.out]
        by_cases h : j = 0
        · subst h; rw [K0.out]; omega
        · obtain rfl : j = 1 := by omega
          rw [K1.out, ← Hn1.out]; omega
      have co := Lib.hid fun W => other_b x y v W o Ho2 (by omega) (by omega) (by have := Hvb.out; omega)
      clear hxb
      obtain ⟨ej, ej2, ej3⟩ := idxF j 2 hlt
      obtain ⟨ei, ei2, ei3⟩ := idxF i m hi
      obtain ⟨t0, ht0⟩ := Option.isSome_iff_exists.1 (show (wr.cell? ⟨g, i * 2, none⟩).isSome by rw [(own_cellE Hown.out (by rw [ovJ_len, Hm.out]) hi).1]; rfl)
      obtain ⟨t1, ht1⟩ := Option.isSome_iff_exists.1 (show (wr.cell? ⟨g, i * 2 + 1, none⟩).isSome by rw [(own_cellE Hown.out (by rw [ovJ_len, Hm.out]) hi).2]; rfl)
      have hgr : g < wr.heap.size := (Hown.out.lt g rfl).2
      have hgG : gg ≠ g := by omega
      have hgV : gv ≠ g := by omega
      have hgB : bb ≠ g := by omega
      go_wp2
      have wj := Wj.out
      refine wp_region_noPanic ?_
      refine wp_region_held_drew (S := (fun w' => w'.cell? ⟨gg, 0, none⟩ = some (.int .i64 n) ∧ w'.cell? ⟨gg, 1, none⟩ = some (.slice (some ⟨bb, off, none⟩) m c) ∧ w'.cell? ⟨gv, 0, none⟩ = some (.int .i64 v) ∧ w'.cell? ⟨bb, off + i * 2, none⟩ = some (.int .i64 x) ∧ w'.cell? ⟨bb, off + i * 2 + 1, none⟩ = some (.int .i64 y))) (by kernel_rfl) ?_ (fun hHeld => ?_)
      · (try dsimp only); (first | (obtain ⟨q1, q2, q3, q4, q5⟩ := hHeld; exact ⟨(sc_other (addr_ne (.inl (by omega)))).trans ((sc_other (addr_ne (.inl (by omega)))).trans q1), (sc_other (addr_ne (.inl (by omega)))).trans ((sc_other (addr_ne (.inl (by omega)))).trans q2), (sc_other (addr_ne (.inl (by omega)))).trans ((sc_other (addr_ne (.inl (by omega)))).trans q3), (sc_other (addr_ne (.inl (by omega)))).trans ((sc_other (addr_ne (.inl (by omega)))).trans q4), (sc_other (addr_ne (.inl (by omega)))).trans ((sc_other (addr_ne (.inl (by omega)))).trans q5)⟩) | (first | go_keep | (obtain ⟨hq, _⟩ := bcell ‹Below _ _ _›; (repeat' apply And.intro) <;> (rw [hq _ _ (by first | assumption | omega | (simp; done) | (simp; omega) | (simp; assumption))] <;> (first | assumption | (simp [*]; done))))))
      refine wpAnyH_take_d (i := 0) (d := some 19) (v := ?v1) rfl rfl (by kernel_rfl) (by kernel_rfl) (by kernel_rfl) (fun _ _ _ h => h) (Or.inl ⟨by kernel_rfl, ?y1⟩) (by assumption) ?_
      case y1 => (intro w' hSw; (try dsimp only at hSw); go_simp; try with_reducible rfl)
      try simp only [Act.put, List.setIfInBounds_toArray, List.set_cons_zero, List.set_cons_succ]
      refine wpAnyH_take_d (i := 1) (d := some 20) (v := ?v2) rfl rfl (by kernel_rfl) (by kernel_rfl) (by kernel_rfl) (fun _ _ _ h => h) (Or.inl ⟨by kernel_rfl, ?y2⟩) (by assumption) ?_
      case y2 => (intro w' hSw; (try dsimp only at hSw); go_simp; try with_reducible rfl)
      try simp only [Act.put, List.setIfInBounds_toArray, List.set_cons_zero, List.set_cons_succ]
      refine wpAnyH_take_d (i := 2) (d := some 21) (v := ?v3) rfl rfl (by kernel_rfl) (by kernel_rfl) (by kernel_rfl) (fun _ _ _ h => h) (Or.inl ⟨by kernel_rfl, ?y3⟩) (by assumption) ?_
      case y3 => (intro w' hSw; (try dsimp only at hSw); go_simp; try with_reducible rfl)
      try simp only [Act.put, List.setIfInBounds_toArray, List.set_cons_zero, List.set_cons_succ]
      refine wpAnyH_take_d (i := 3) (d := some 22) (v := ?v4) rfl rfl (by kernel_rfl) (by kernel_rfl) (by kernel_rfl) (fun _ _ _ h => h) (Or.inl ⟨by kernel_rfl, ?y4⟩) (by assumption) ?_
      case y4 => (intro w' hSw; (try dsimp only at hSw); go_simp; try with_reducible rfl)
      try simp only [Act.put, List.setIfInBounds_toArray, List.set_cons_zero, List.set_cons_succ]
      refine wpAnyH_take_d (i := 4) (d := some 23) (v := ?v5) rfl rfl (by kernel_rfl) (by kernel_rfl) (by kernel_rfl) (fun _ _ _ h => h) (Or.inl ⟨by kernel_rfl, ?y5⟩) (by assumption) ?_
      case y5 => (intro w' hSw; (try dsimp only at hSw); go_simp; try with_reducible rfl)
      try simp only [Act.put, List.setIfInBounds_toArray, List.set_cons_zero, List.set_cons_succ]
      refine wpAnyH_take_d (i := 5) (d := some 24) (v := ?v6) rfl rfl (by kernel_rfl) (by kernel_rfl) (by kernel_rfl) (fun _ _ _ h => h) (Or.inl ⟨by kernel_rfl, ?y6⟩) (by assumption) ?_
      case y6 => (intro w' hSw; (try dsimp only at hSw); go_simp; try with_reducible rfl)
      try simp only [Act.put, List.setIfInBounds_toArray, List.set_cons_zero, List.set_cons_succ]
      refine wpAnyH_take_d (i := 6) (d := some 25) (v := ?v7) rfl rfl (by kernel_rfl) (by kernel_rfl) (by kernel_rfl) (fun _ _ _ h => h) (Or.inl ⟨by kernel_rfl, ?y7⟩) (by assumption) ?_
      case y7 => (intro w' hSw; (try dsimp only at hSw); go_simp; try with_reducible rfl)
      try simp only [Act.put, List.setIfInBounds_toArray, List.set_cons_zero, List.set_cons_succ]
      refine wpAnyH_take_d (i := 7) (d := some 26) (v := ?v8) rfl rfl (by kernel_rfl) (by kernel_rfl) (by kernel_rfl) (fun _ _ _ h => h) (Or.inl ⟨by kernel_rfl, ?y8⟩) (by assumption) ?_
      case y8 => (intro w' hSw; (try dsimp only at hSw); go_simp; try with_reducible rfl)
      try simp only [Act.put, List.setIfInBounds_toArray, List.set_cons_zero, List.set_cons_succ]
      refine wpAnyH_take_d (i := 9) (d := some 28) (v := ?v9) rfl rfl (by kernel_rfl) (by kernel_rfl) (by kernel_rfl) (fun _ _ _ h => h) (Or.inl ⟨by kernel_rfl, ?y9⟩) (by assumption) ?_
      case y9 => (intro w' hSw; (try dsimp only at hSw); go_simp; try with_reducible rfl)
      try simp only [Act.put, List.setIfInBounds_toArray, List.set_cons_zero, List.set_cons_succ]
      refine wpAnyH_take_d (i := 10) (d := some 29) (v := ?v10) rfl rfl (by kernel_rfl) (by kernel_rfl) (by kernel_rfl) (fun _ _ _ h => h) (Or.inl ⟨by kernel_rfl, ?y10⟩) (by assumption) ?_
      case y10 => (intro w' hSw; (try dsimp only at hSw); go_simp; try with_reducible rfl)
      try simp only [Act.put, List.setIfInBounds_toArray, List.set_cons_zero, List.set_cons_succ]
      refine wpAnyH_take_d (i := 11) (d := some 30) (v := ?v11) rfl rfl (by kernel_rfl) (by kernel_rfl) (by kernel_rfl) (fun _ _ _ h => h) (Or.inl ⟨by kernel_rfl, ?y11⟩) (by assumption) ?_
      case y11 => (intro w' hSw; (try dsimp only at hSw); go_simp; try with_reducible rfl)
      try simp only [Act.put, List.setIfInBounds_toArray, List.set_cons_zero, List.set_cons_succ]
      refine wpAnyH_take_d (i := 12) (d := some 31) (v := ?v12) rfl rfl (by kernel_rfl) (by kernel_rfl) (by kernel_rfl) (fun _ _ _ h => h) (Or.inl ⟨by kernel_rfl, ?y12⟩) (by assumption) ?_
      case y12 => (intro w' hSw; (try dsimp only at hSw); go_simp; try with_reducible rfl)
      try simp only [Act.put, List.setIfInBounds_toArray, List.set_cons_zero, List.set_cons_succ]
      refine wpAnyH_ready (rs := [8]) (by kernel_rfl) (by simp) ?_
      refine AllReadyH.cons rfl (fun K hK => ?_) AllReadyH.nil
      go_simp
      refine (co.out _).mono ?_; rintro e w3 ⟨rfl, hb3⟩; have z3 := hb3.size; (try simp only [World.size_alloc, World.size_setCell, World.size_drew] at z3)
      refine hK.out _ _ ?s13 (fun hHeld13 => ?_)
      case s13 => ((try dsimp only); (first | (obtain ⟨q1, q2, q3, q4, q5⟩ := hHeld; exact ⟨(sc_other (addr_ne (.inl (by omega)))).trans ((sc_other (addr_ne (.inl (by omega)))).trans q1), (sc_other (addr_ne (.inl (by omega)))).trans ((sc_other (addr_ne (.inl (by omega)))).trans q2), (sc_other (addr_ne (.inl (by omega)))).trans ((sc_other (addr_ne (.inl (by omega)))).trans q3), (sc_other (addr_ne (.inl (by omega)))).trans ((sc_other (addr_ne (.inl (by omega)))).trans q4), (sc_other (addr_ne (.inl (by omega)))).trans ((sc_other (addr_ne (.inl (by omega)))).trans q5)⟩) | (first | go_keep | (obtain ⟨hq, _⟩ := bcell ‹Below _ _ _›; (repeat' apply And.intro) <;> (rw [hq _ _ (by first | assumption | omega | (simp; done) | (simp; omega) | (simp; assumption))] <;> (first | assumption | (simp [*]; done)))))))
      clear hK K hHeld
      have hHeld := hHeld13; clear hHeld13
      try simp only [Act.put, List.setIfInBounds_toArray, List.set_cons_zero, List.set_cons_succ]
      refine wpAnyH_take_d (i := 13) (d := some 32) (v := ?v14) rfl rfl (by kernel_rfl) (by kernel_rfl) (by kernel_rfl) (fun _ _ _ h => h) (Or.inl ⟨by kernel_rfl, ?y14⟩) (by assumption) ?_
      case y14 => (intro w' hSw; (try dsimp only at hSw); go_simp; try with_reducible rfl)
      try simp only [Act.put, List.setIfInBounds_toArray, List.set_cons_zero, List.set_cons_succ]
      refine wpAnyH_take_d (i := 14) (d := some 33) (v := ?v15) rfl rfl (by kernel_rfl) (by kernel_rfl) (by kernel_rfl) (fun _ _ _ h => h) (Or.inl ⟨by kernel_rfl, ?y15⟩) (by assumption) ?_
      case y15 => (intro w' hSw; (try dsimp only at hSw); go_simp; try with_reducible rfl)
      try simp only [Act.put, List.setIfInBounds_toArray, List.set_cons_zero, List.set_cons_succ]
      have b33 : Below wr.heap.size wr w3 := (Below.drew (Below.refl _ _)).trans hb3; have H3 := Lib.hid (own_below Hown.out b33); have s0 := ((bcell b33).1 _ _ hgr).trans ht0; have s1 : (w3.setCell ⟨g, i * 2, none⟩ (.int .i64 o)).cell? ⟨g, i * 2 + 1, none⟩ = some t1 := (sc_other (by simp)).trans (((bcell b33).1 _ _ hgr).trans ht1); have f0 := own_frozen H3.out (i * 2); have f1 := own_frozen H3.out (i * 2 + 1)
      refine wpAnyH_ready (rs := [15]) (by kernel_rfl) (by simp) ?_
      refine AllReadyH.cons rfl (fun K hK => ?_) AllReadyH.nil
      go_simp
      refine hK.out _ _ ?s16 (fun hHeld16 => ?_)
      case s16 => ((try dsimp only); (first | (obtain ⟨q1, q2, q3, q4, q5⟩ := hHeld; exact ⟨(sc_other (addr_ne (.inl (by omega)))).trans ((sc_other (addr_ne (.inl (by omega)))).trans q1), (sc_other (addr_ne (.inl (by omega)))).trans ((sc_other (addr_ne (.inl (by omega)))).trans q2), (sc_other (addr_ne (.inl (by omega)))).trans ((sc_other (addr_ne (.inl (by omega)))).trans q3), (sc_other (addr_ne (.inl (by omega)))).trans ((sc_other (addr_ne (.inl (by omega)))).trans q4), (sc_other (addr_ne (.inl (by omega)))).trans ((sc_other (addr_ne (.inl (by omega)))).trans q5)⟩) | (first | go_keep | (obtain ⟨hq, _⟩ := bcell ‹Below _ _ _›; (repeat' apply And.intro) <;> (rw [hq _ _ (by first | assumption | omega | (simp; done) | (simp; omega) | (simp; assumption))] <;> (first | assumption | (simp [*]; done)))))))
      clear hK K hHeld
      have hHeld := hHeld16; clear hHeld16
      try simp only [Act.put, List.setIfInBounds_toArray, List.set_cons_zero, List.set_cons_succ]
      refine wpAnyH_done (by kernel_rfl) ?_ _
      refine NoPanic.normal ?_
      clear hHeld
      go_wp2
      exact ⟨⟨j + 1, by omega, by go_num, by { show World.ownsRow _ _ _ _ _ _ _; rw [HJ.out, Ho.out, Hnj.out]; exact own_setE H3.out (by rw [ovJ_len, Hm.out]) hi o nj }, ((Honly.out.trans (Only.of_below b33)).set (i * 2) _).set (i * 2 + 1) _⟩, by simp [intOf]; omega⟩
    · obtain rfl : j = 2 := by omega
      have HI : Hid (ovI n es v a b = ovJ n es v a b 2 ++ [(v, n), (n, n1), (n1, v)]) := by show _ = _; rw [ovI, Hn1.out]
      have p1 := P1.out
      have cy := Lib.hid fun W (hW : RdI W (some ⟨wr.heap.size, 0, none⟩) [v, n, n1]) => cycle_b (some ⟨wr.heap.size, 0, none⟩) 3 [v, n, n1] W (by simp) hW
      go_wp2_with fail
      refine (cy.out _ (blkI_rd (t := 2) (xs := [v, n, n1]) (Blk.new' _ rfl))).mono ?_
      rintro e w3 ⟨A4, c4, rfl, hF, hb3⟩
      have hrd : RdE w3 A4 [(v, n), (n, n1), (n1, v)] := by have h := hF.rd; simpa [cycE, List.range_succ] using h
      obtain ⟨b4, o4, rfl, _, _⟩ := hrd.pos (by simp)
      have hb5 : Below wr.heap.size wr w3 := by (repeat' (first | (with_reducible exact Below.refl _ _) | (with_reducible assumption) | (with_reducible refine Below.alloc ?_ ?_ _) | (with_reducible refine Below.drew ?_) | (with_reducible refine below_drewN ?_ _) | (with_reducible refine Below.setCell ?_ ?_ _) | (with_reducible refine Below.trans ?_ (Below.mono (by assumption) ?_)) | (first | omega | (simp only [World.size_alloc, World.size_setCell, World.size_drew]; omega) | (simp; omega) | (simp; done))))
      have hown2 := own_below Hown.out hb5
      have s3 := hb5.size
      have HB3 : Hid (Below w.heap.size w w3) := Hbw.out.trans (hb5.mono sr)
      clear k0 k1 kv
      go_wp2_with (first
        | (at_builtin; refine wpList_appendE rfl rfl w.heap.size _ m (ovJ n es v a b 2) rfl hown2 b4 o4 3 c4 [(v, n), (n, n1), (n1, v)] rfl rfl hrd (by have := Hhl.out; omega) (by omega) (by omega) ?_))
      intro v' w5 hown5 hfr hgr
      have Hb5 : Hid (Below w.heap.size w w5) := hfr w.heap.size w (Nat.le_refl _) HB3.out
      obtain ⟨g5, c5, rfl, _, _⟩ := own_someI hown5 (by omega)
      have Hown5 : Hid (w5.ownsRow w.heap.size 54 2 (.slice (some ⟨g5, 0, none⟩) (m + 3) c5) (m + 3) (cE (ovI n es v a b))) := by
        show World.ownsRow _ _ _ _ _ _ _
        rw [HI.out]
        exact hown5
      clear hown5 hfr hgr hown2 hrd
      go_wp2
      go_ret
      exact ⟨some ⟨g5, 0, none⟩, c5, rfl, own_rdE Hown5.out, Hb5.out⟩
end Go.Proofs.Ytblidpodbpoaeaa
namespace Go.Proofs.Ytblidpodbpoaeaa
open Go.RowKit
set_option linter.unusedSimpArgs false
set_option linter.unusedVariables false
set_option maxRecDepth 20000

set_option maxHeartbeats 4000000 in
/-- The errors. -/
theorem implOpen_err (n : Int) (A : Option Addr) (c : Nat) (es : List (Int × Int)) (v : Int) (w : World) (hl : es.length ≤ 1048576) (hr : RdE w A es) (r : Int) (qg qv : Bool) (hq : Hid (isGraphB n es = qg)) (hv : Hid (inB v 0 (wrap64 (n - 1)) = qv)) (hc : gcode qg qv = r) (hv0 : r ≠ 0) :
    Calls Try.prog 20 #[.agg #[.int .i64 n, .slice A es.length c], .int .i64 v] w fun e w' => RetG w' w.heap.size e 0 [] r ∧ Below w.heap.size w w' := by
  have ca := fun W => isVertex_b n A es.length c v W qv hv
  have cg := fun W (hW : Below w.heap.size w W) => graphCode_b n A c es W qg qv hq hl (hr.below hW)
  have g1 : (r != 0) = true := by simpa using hv0
  rw [hc] at cg
  clear hr hq hv hc hv0
  generalize es.length = m at *
  go_enter Try.func20, Try.ntmps20
  go_wp2
  refine wp_region_noPanic ?_
  refine wp_region_held_drew (S := (fun w' => w'.cell? ⟨w.heap.size, 0, none⟩ = some (.int .i64 n) ∧ w'.cell? ⟨w.heap.size, 1, none⟩ = some (.slice A m c) ∧ w'.cell? ⟨w.heap.size + 1, 0, none⟩ = some (.int .i64 v))) (by kernel_rfl) ?_ (fun hHeld => ?_)
  · (try dsimp only); (first | go_keep | (obtain ⟨hq, _⟩ := bcell ‹Below _ _ _›; (repeat' apply And.intro) <;> (rw [hq _ _ (by first | assumption | omega | (simp; done) | (simp; omega) | (simp; assumption))] <;> (first | assumption | (simp [*]; done)))))
  refine wpAnyH_take_d (i := 0) (d := some 7) (v := ?v17) rfl rfl (by kernel_rfl) (by kernel_rfl) (by kernel_rfl) (fun _ _ _ h => h) (Or.inl ⟨by kernel_rfl, ?y17⟩) (by assumption) ?_
  case y17 => (intro w' hSw; (try dsimp only at hSw); go_simp; try with_reducible rfl)
  try simp only [Act.put, List.setIfInBounds_toArray, List.set_cons_zero, List.set_cons_succ]
  refine wpAnyH_take_d (i := 1) (d := some 8) (v := ?v18) rfl rfl (by kernel_rfl) (by kernel_rfl) (by kernel_rfl) (fun _ _ _ h => h) (Or.inl ⟨by kernel_rfl, ?y18⟩) (by assumption) ?_
  case y18 => (intro w' hSw; (try dsimp only at hSw); go_simp; try with_reducible rfl)
  try simp only [Act.put, List.setIfInBounds_toArray, List.set_cons_zero, List.set_cons_succ]
  refine wpAnyH_take_d (i := 2) (d := some 9) (v := ?v19) rfl rfl (by kernel_rfl) (by kernel_rfl) (by kernel_rfl) (fun _ _ _ h => h) (Or.inl ⟨by kernel_rfl, ?y19⟩) (by assumption) ?_
  case y19 => (intro w' hSw; (try dsimp only at hSw); go_simp; try with_reducible rfl)
  try simp only [Act.put, List.setIfInBounds_toArray, List.set_cons_zero, List.set_cons_succ]
  refine wpAnyH_ready (rs := [3]) (by kernel_rfl) (by simp) ?_
  refine AllReadyH.cons rfl (fun K hK => ?_) AllReadyH.nil
  go_simp
  refine (ca _).mono ?_; rintro e w1 ⟨rfl, hb1⟩; have z1 := hb1.size; (try simp only [World.size_alloc, World.size_setCell, World.size_drew] at z1)
  refine hK.out _ _ ?s20 (fun hHeld20 => ?_)
  case s20 => ((try dsimp only); (first | go_keep | (obtain ⟨hq, _⟩ := bcell ‹Below _ _ _›; (repeat' apply And.intro) <;> (rw [hq _ _ (by first | assumption | omega | (simp; done) | (simp; omega) | (simp; assumption))] <;> (first | assumption | (simp [*]; done))))))
  clear hK K hHeld
  have hHeld := hHeld20; clear hHeld20
  try simp only [Act.put, List.setIfInBounds_toArray, List.set_cons_zero, List.set_cons_succ]
  refine wpAnyH_ready (rs := [4]) (by kernel_rfl) (by simp) ?_
  refine AllReadyH.cons rfl (fun K hK => ?_) AllReadyH.nil
  go_simp
  refine (cg _ (by (repeat' (first | (with_reducible exact Below.refl _ _) | (with_reducible assumption) | (with_reducible refine Below.alloc ?_ ?_ _) | (with_reducible refine Below.drew ?_) | (with_reducible refine below_drewN ?_ _) | (with_reducible refine Below.setCell ?_ ?_ _) | (with_reducible refine Below.trans ?_ (Below.mono (by assumption) ?_)) | (first | omega | (simp only [World.size_alloc, World.size_setCell, World.size_drew]; omega) | (simp; omega) | (simp; done)))))).mono ?_; rintro e w3 ⟨rfl, hb3⟩; have z3 := hb3.size; (try simp only [World.size_alloc, World.size_setCell, World.size_drew] at z3)
  refine hK.out _ _ ?s21 (fun hHeld21 => ?_)
  case s21 => ((try dsimp only); (first | go_keep | (obtain ⟨hq, _⟩ := bcell ‹Below _ _ _›; (repeat' apply And.intro) <;> (rw [hq _ _ (by first | assumption | omega | (simp; done) | (simp; omega) | (simp; assumption))] <;> (first | assumption | (simp [*]; done))))))
  clear hK K hHeld
  have hHeld := hHeld21; clear hHeld21
  try simp only [Act.put, List.setIfInBounds_toArray, List.set_cons_zero, List.set_cons_succ]
  refine wpAnyH_take_d (i := 5) (d := some 6) (v := ?v22) rfl rfl (by kernel_rfl) (by kernel_rfl) (by kernel_rfl) (fun _ _ _ h => h) (Or.inl ⟨by kernel_rfl, ?y22⟩) (by assumption) ?_
  case y22 => (intro w' hSw; (try dsimp only at hSw); go_simp; try with_reducible rfl)
  try simp only [Act.put, List.setIfInBounds_toArray, List.set_cons_zero, List.set_cons_succ]
  refine wpAnyH_done (by kernel_rfl) ?_ _
  refine NoPanic.normal ?_
  clear hHeld
  have b3 : Below (((w.alloc (.cells #[.int .i64 n, .slice A m c] 24)).alloc (.cells #[.int .i64 v] 2)).alloc (.cells #[.int .i64 0, .slice none 0 0] 24)).heap.size (((w.alloc (.cells #[.int .i64 n, .slice A m c] 24)).alloc (.cells #[.int .i64 v] 2)).alloc (.cells #[.int .i64 0, .slice none 0 0] 24)) w3 := by (repeat' (first | (with_reducible exact Below.refl _ _) | (with_reducible assumption) | (with_reducible refine Below.alloc ?_ ?_ _) | (with_reducible refine Below.drew ?_) | (with_reducible refine below_drewN ?_ _) | (with_reducible refine Below.setCell ?_ ?_ _) | (with_reducible refine Below.trans ?_ (Below.mono (by assumption) ?_)) | (first | omega | (simp only [World.size_alloc, World.size_setCell, World.size_drew]; omega) | (simp; omega) | (simp; done))))
  have HZ := Lib.hid ((Blk.new' (n := w.heap.size + 1 + 1) _ (by simp)).below b3 (by simp) : Blk w3 (w.heap.size + 1 + 1) 24 #[.int .i64 0, .slice none 0 0])
  have Hb1 : Hid (Below w.heap.size w w3) := by show Below _ _ _; exact Below.trans (b := (((w.alloc (.cells #[.int .i64 n, .slice A m c] 24)).alloc (.cells #[.int .i64 v] 2)).alloc (.cells #[.int .i64 0, .slice none 0 0] 24))) (by (repeat' (first | (with_reducible exact Below.refl _ _) | (with_reducible assumption) | (with_reducible refine Below.alloc ?_ ?_ _) | (with_reducible refine Below.drew ?_) | (with_reducible refine below_drewN ?_ _) | (with_reducible refine Below.setCell ?_ ?_ _) | (with_reducible refine Below.trans ?_ (Below.mono (by assumption) ?_)) | (first | omega | (simp only [World.size_alloc, World.size_setCell, World.size_drew]; omega) | (simp; omega) | (simp; done))))) (b3.mono (by simp; omega))
  have x0 := HZ.out.cellAt 0 _ rfl
  have x1 : (w3.setCell ⟨w.heap.size + 1 + 1, 0, none⟩ (.int .i64 0)).cell? ⟨w.heap.size + 1 + 1, 1, none⟩ = some (.slice none 0 0) := (sc_other (by simp)).trans (HZ.out.cellAt 1 _ rfl)
  have f0 := HZ.out.frozen 0
  have f1 := HZ.out.frozen 1
  clear b3 hb3
  go_wp2
  refine ret_cell_tmp Try.results20 Try.underlying24 rfl (by kernel_rfl) rfl ((HZ.out.set_ 0 (.int .i64 0)).set_ 1 (.slice none 0 0)) rfl rfl ⟨⟨none, 0, rfl, FrE.nil⟩, (Hb1.out.setCell (by show w.heap.size ≤ w.heap.size + 1 + 1; omega) _).setCell (by show w.heap.size ≤ w.heap.size + 1 + 1; omega) _⟩

set_option maxHeartbeats 4000000 in
/-- The graph. -/
theorem implOpen_yes (n : Int) (A : Option Addr) (c : Nat) (es : List (Int × Int)) (v : Int) (w : World) (hl : es.length ≤ 1000) (hr : RdE w A es) (hq : Hid (isGraphB n es = true)) (hv : Hid (inB v 0 (n - 1) = true)) (a0 a b : Nat) (hat : atL es v = [(a0 : Int), (a : Int), (b : Int)]) (hab : a < b) (hbl : b < es.length)
    (N : Int) (rs : List (Int × Int)) (r : Int) (R0 : Hid ((limV (n + 2) (ovI n es v a b)).1 = N)) (R1 : Hid ((limV (n + 2) (ovI n es v a b)).2.1 = rs)) (R2 : Hid ((limV (n + 2) (ovI n es v a b)).2.2 = r)) :
    Calls Try.prog 20 #[.agg #[.int .i64 n, .slice A es.length c], .int .i64 v] w fun e w' => RetG w' w.heap.size e N rs r ∧ Below w.heap.size w w' := by
  have hmf : ∀ (fn : Fn) (first cap : Array Value) (w : World), (Instr.makeFunc fn first cap).run Try.prog w = .ok (.func fn first cap) w := fun _ _ _ _ => rfl
  have hn := isGraphB_n hq.out
  have hw : wrap64 (n - 1) = n - 1 := wrap64_small (by omega) (by omega)
  have ca := fun W => isVertex_b n A es.length c v W true (by show _ = _; rw [hw]; exact hv.out)
  have cg := fun W (hW : Below w.heap.size w W) => graphCode_b n A c es W true true hq (by omega) (hr.below hW)
  have hlen := ovI_len n es v a b
  have cl := Lib.hid fun W lb hp => limited_b (n + 2) 50 lb (ovI n es v a b) W ent_open1 (by omega) (by omega) hp
  simp only [R0.out, R1.out, R2.out] at cl
  have cf := Lib.hid fun (gg gv : Nat) (W : World) (hW : Below w.heap.size w W) => open1_b gg gv n A c es v W (by omega) (hr.below hW) hq hv a0 a b hat hab hbl
  obtain ⟨M, HM⟩ : ∃ M, Hid (rs.length = M) := ⟨_, rfl⟩
  rw [show gcode true true = 0 from rfl] at cg
  have p2 : wrap64 (n + 2) = n + 2 := wrap64_small (by omega) (by omega)
  clear hr hq hv hab R0 R1 R2 hlen hn hat hbl hw
  generalize ovI n es v a b = X at *
  generalize es.length = m at *
  go_enter Try.func20, Try.ntmps20
  go_wp2
  refine wp_region_noPanic ?_
  refine wp_region_held_drew (S := (fun w' => w'.cell? ⟨w.heap.size, 0, none⟩ = some (.int .i64 n) ∧ w'.cell? ⟨w.heap.size, 1, none⟩ = some (.slice A m c) ∧ w'.cell? ⟨w.heap.size + 1, 0, none⟩ = some (.int .i64 v))) (by kernel_rfl) ?_ (fun hHeld => ?_)
  · (try dsimp only); (first | go_keep | (obtain ⟨hq, _⟩ := bcell ‹Below _ _ _›; (repeat' apply And.intro) <;> (rw [hq _ _ (by first | assumption | omega | (simp; done) | (simp; omega) | (simp; assumption))] <;> (first | assumption | (simp [*]; done)))))
  refine wpAnyH_take_d (i := 0) (d := some 7) (v := ?v23) rfl rfl (by kernel_rfl) (by kernel_rfl) (by kernel_rfl) (fun _ _ _ h => h) (Or.inl ⟨by kernel_rfl, ?y23⟩) (by assumption) ?_
  case y23 => (intro w' hSw; (try dsimp only at hSw); go_simp; try with_reducible rfl)
  try simp only [Act.put, List.setIfInBounds_toArray, List.set_cons_zero, List.set_cons_succ]
  refine wpAnyH_take_d (i := 1) (d := some 8) (v := ?v24) rfl rfl (by kernel_rfl) (by kernel_rfl) (by kernel_rfl) (fun _ _ _ h => h) (Or.inl ⟨by kernel_rfl, ?y24⟩) (by assumption) ?_
  case y24 => (intro w' hSw; (try dsimp only at hSw); go_simp; try with_reducible rfl)
  try simp only [Act.put, List.setIfInBounds_toArray, List.set_cons_zero, List.set_cons_succ]
  refine wpAnyH_take_d (i := 2) (d := some 9) (v := ?v25) rfl rfl (by kernel_rfl) (by kernel_rfl) (by kernel_rfl) (fun _ _ _ h => h) (Or.inl ⟨by kernel_rfl, ?y25⟩) (by assumption) ?_
  case y25 => (intro w' hSw; (try dsimp only at hSw); go_simp; try with_reducible rfl)
  try simp only [Act.put, List.setIfInBounds_toArray, List.set_cons_zero, List.set_cons_succ]
  refine wpAnyH_ready (rs := [3]) (by kernel_rfl) (by simp) ?_
  refine AllReadyH.cons rfl (fun K hK => ?_) AllReadyH.nil
  go_simp
  refine (ca _).mono ?_; rintro e w1 ⟨rfl, hb1⟩; have z1 := hb1.size; (try simp only [World.size_alloc, World.size_setCell, World.size_drew] at z1)
  refine hK.out _ _ ?s26 (fun hHeld26 => ?_)
  case s26 => ((try dsimp only); (first | go_keep | (obtain ⟨hq, _⟩ := bcell ‹Below _ _ _›; (repeat' apply And.intro) <;> (rw [hq _ _ (by first | assumption | omega | (simp; done) | (simp; omega) | (simp; assumption))] <;> (first | assumption | (simp [*]; done))))))
  clear hK K hHeld
  have hHeld := hHeld26; clear hHeld26
  try simp only [Act.put, List.setIfInBounds_toArray, List.set_cons_zero, List.set_cons_succ]
  refine wpAnyH_ready (rs := [4]) (by kernel_rfl) (by simp) ?_
  refine AllReadyH.cons rfl (fun K hK => ?_) AllReadyH.nil
  go_simp
  refine (cg _ (by (repeat' (first | (with_reducible exact Below.refl _ _) | (with_reducible assumption) | (with_reducible refine Below.alloc ?_ ?_ _) | (with_reducible refine Below.drew ?_) | (with_reducible refine below_drewN ?_ _) | (with_reducible refine Below.setCell ?_ ?_ _) | (with_reducible refine Below.trans ?_ (Below.mono (by assumption) ?_)) | (first | omega | (simp only [World.size_alloc, World.size_setCell, World.size_drew]; omega) | (simp; omega) | (simp; done)))))).mono ?_; rintro e w3 ⟨rfl, hb3⟩; have z3 := hb3.size; (try simp only [World.size_alloc, World.size_setCell, World.size_drew] at z3)
  refine hK.out _ _ ?s27 (fun hHeld27 => ?_)
  case s27 => ((try dsimp only); (first | go_keep | (obtain ⟨hq, _⟩ := bcell ‹Below _ _ _›; (repeat' apply And.intro) <;> (rw [hq _ _ (by first | assumption | omega | (simp; done) | (simp; omega) | (simp; assumption))] <;> (first | assumption | (simp [*]; done))))))
  clear hK K hHeld
  have hHeld := hHeld27; clear hHeld27
  try simp only [Act.put, List.setIfInBounds_toArray, List.set_cons_zero, List.set_cons_succ]
  refine wpAnyH_take_d (i := 5) (d := some 6) (v := ?v28) rfl rfl (by kernel_rfl) (by kernel_rfl) (by kernel_rfl) (fun _ _ _ h => h) (Or.inl ⟨by kernel_rfl, ?y28⟩) (by assumption) ?_
  case y28 => (intro w' hSw; (try dsimp only at hSw); go_simp; try with_reducible rfl)
  try simp only [Act.put, List.setIfInBounds_toArray, List.set_cons_zero, List.set_cons_succ]
  refine wpAnyH_done (by kernel_rfl) ?_ _
  refine NoPanic.normal ?_
  clear hHeld
  have b3 : Below (((w.alloc (.cells #[.int .i64 n, .slice A m c] 24)).alloc (.cells #[.int .i64 v] 2)).alloc (.cells #[.int .i64 0, .slice none 0 0] 24)).heap.size (((w.alloc (.cells #[.int .i64 n, .slice A m c] 24)).alloc (.cells #[.int .i64 v] 2)).alloc (.cells #[.int .i64 0, .slice none 0 0] 24)) w3 := by (repeat' (first | (with_reducible exact Below.refl _ _) | (with_reducible assumption) | (with_reducible refine Below.alloc ?_ ?_ _) | (with_reducible refine Below.drew ?_) | (with_reducible refine below_drewN ?_ _) | (with_reducible refine Below.setCell ?_ ?_ _) | (with_reducible refine Below.trans ?_ (Below.mono (by assumption) ?_)) | (first | omega | (simp only [World.size_alloc, World.size_setCell, World.size_drew]; omega) | (simp; omega) | (simp; done))))
  have HZ := Lib.hid ((Blk.new' (n := w.heap.size + 1 + 1) _ (by simp)).below b3 (by simp) : Blk w3 (w.heap.size + 1 + 1) 24 #[.int .i64 0, .slice none 0 0])
  have Hb1 : Hid (Below w.heap.size w w3) := by show Below _ _ _; exact Below.trans (b := (((w.alloc (.cells #[.int .i64 n, .slice A m c] 24)).alloc (.cells #[.int .i64 v] 2)).alloc (.cells #[.int .i64 0, .slice none 0 0] 24))) (by (repeat' (first | (with_reducible exact Below.refl _ _) | (with_reducible assumption) | (with_reducible refine Below.alloc ?_ ?_ _) | (with_reducible refine Below.drew ?_) | (with_reducible refine below_drewN ?_ _) | (with_reducible refine Below.setCell ?_ ?_ _) | (with_reducible refine Below.trans ?_ (Below.mono (by assumption) ?_)) | (first | omega | (simp only [World.size_alloc, World.size_setCell, World.size_drew]; omega) | (simp; omega) | (simp; done))))) (b3.mono (by simp; omega))
  have HG := Lib.hid ((((Blk.new w _ _).alloc _).alloc _).below b3 (by simp; omega) : Blk w3 w.heap.size 24 #[.int .i64 n, .slice A m c])
  have HV := Lib.hid (((Blk.new' (n := w.heap.size + 1) _ (by simp)).alloc _).below b3 (by simp) : Blk w3 (w.heap.size + 1) 2 #[.int .i64 v])
  have k0 := HG.out.cellAt 0 _ rfl
  have zz := HZ.out.lt
  clear b3 hb3 hb1 z1 z3 ca cg
  go_wp2_with fail
  refine (cl.out w3 _ ?_).mono ?_
  · intro h20 W hW
    exact cf.out w.heap.size (w.heap.size + 1) W (Hb1.out.trans (hW.mono (by omega))) (HG.out.below hW (by omega)) (HV.out.below hW (by omega))
  rintro e w4 ⟨hq4, hb4⟩
  obtain ⟨A4, c4, rfl, hF⟩ := hq4.open_ HM.out
  have hZ4 := HZ.out.below hb4 zz
  have x0 := hZ4.cellAt 0 _ rfl
  have x1 : (w4.setCell ⟨w.heap.size + 1 + 1, 0, none⟩ (.int .i64 N)).cell? ⟨w.heap.size + 1 + 1, 1, none⟩ = some (.slice none 0 0) := (sc_other (by simp)).trans (hZ4.cellAt 1 _ rfl)
  have f0 := hZ4.frozen 0
  have f1 := hZ4.frozen 1
  have HZ4 := Lib.hid hZ4
  have HF := Lib.hid hF
  have Hb4 : Hid (Below w.heap.size w w4) := Hb1.out.trans (hb4.mono (by omega))
  clear hZ4 hF hb4 hq4 k0 HG HV HZ
  go_wp2
  refine ret_cell_tmp Try.results20 Try.underlying24 rfl (by kernel_rfl) rfl ((HZ4.out.set_ 0 (.int .i64 N)).set_ 1 (.slice A4 M c4)) rfl rfl ⟨⟨A4, c4, ?_, FrE.mono (n0 := w3.heap.size) ?_ (by omega)⟩, (Hb4.out.setCell (by show w.heap.size ≤ w.heap.size + 1 + 1; omega) _).setCell (by show w.heap.size ≤ w.heap.size + 1 + 1; omega) _⟩
  · rw [HM.out]; rfl
  · exact HF.out.away (((Only.refl _ _).set 0 _).set 1 _ : Only (some ⟨w.heap.size + 1 + 1, 0, none⟩) w4 _) zz

theorem openV_yes {n : Int} {es : List (Int × Int)} {v : Int} (hg : isGraphB n es = true) (hv : inB v 0 (n - 1) = true) {a0 a b : Nat} (hat : atL es v = [(a0 : Int), (a : Int), (b : Int)]) : openV n es v = limV (n + 2) (ovI n es v a b) := by
  unfold openV
  rw [if_neg (by rw [hg]; decide), if_neg (by rw [hv]; decide), hat]
  rfl
theorem openV_no {n : Int} {es : List (Int × Int)} {v : Int} (h : ¬ (isGraphB n es = true ∧ inB v 0 (n - 1) = true)) : openV n es v = (0, [], gcode (isGraphB n es) (inB v 0 (n - 1))) := by
  unfold openV
  generalize isGraphB n es = qg at *
  generalize inB v 0 (n - 1) = q at *
  cases qg <;> cases q <;> simp_all [gcode]
theorem gcode_false (q : Bool) : gcode false q = 1 := rfl

theorem implOpen_b (n : Int) (A : Option Addr) (c : Nat) (es : List (Int × Int)) (v : Int) (w : World) (hl : es.length ≤ 1048576) (hr : RdE w A es) (N : Int) (rs : List (Int × Int)) (r : Int) (R0 : Hid ((openV n es v).1 = N)) (R1 : Hid ((openV n es v).2.1 = rs)) (R2 : Hid ((openV n es v).2.2 = r)) :
    Calls Try.prog 20 #[.agg #[.int .i64 n, .slice A es.length c], .int .i64 v] w fun e w' => RetG w' w.heap.size e N rs r ∧ Below w.heap.size w w' := by
  by_cases hall : isGraphB n es = true ∧ inB v 0 (n - 1) = true
  · obtain ⟨hg, hv⟩ := hall
    obtain ⟨a0, a, b, hat, _, hab, hb, _⟩ := atL_three hg hv
    rw [openV_yes hg hv hat] at R0 R1 R2
    have h30 := isGraphB_len hg
    exact implOpen_yes n A c es v w (by omega) hr hg hv a0 a b hat hab hb N rs r R0 R1 R2
  · have hno := openV_no hall
    rw [hno] at R0 R1 R2
    obtain rfl : 0 = N := R0.out
    obtain rfl : [] = rs := R1.out
    have hv : gcode (isGraphB n es) (inB v 0 (n - 1)) = r := R2.out
    have hv0 : r ≠ 0 := by rw [← hv]; exact gcode_no hall
    refine implOpen_err n A c es v w hl hr r (isGraphB n es) (inB v 0 (wrap64 (n - 1))) rfl rfl ?_ hv0
    rw [← hv]
    cases hg : isGraphB n es
    · rw [gcode_false, gcode_false]
    · have hn := isGraphB_n hg
      rw [wrap64_small (by omega) (by omega)]

theorem specOpen_b (n : Int) (A : Option Addr) (c : Nat) (es : List (Int × Int)) (v : Int) (w : World) (hl : es.length ≤ 1048576) (hr : RdE w A es) (N : Int) (rs : List (Int × Int)) (r : Int) (R0 : Hid ((openV n es v).1 = N)) (R1 : Hid ((openV n es v).2.1 = rs)) (R2 : Hid ((openV n es v).2.2 = r)) :
    Calls Try.prog 19 #[.agg #[.int .i64 n, .slice A es.length c], .int .i64 v] w fun e w' => RetG w' w.heap.size e N rs r ∧ Below w.heap.size w w' := by
  have hv1 : [v].all (fun v => inB v 0 (n - 1)) = inB v 0 (n - 1) := by simp
  by_cases hall : isGraphB n es = true ∧ inB v 0 (n - 1) = true
  · obtain ⟨hg, hv⟩ := hall
    obtain ⟨a0, a, b, hat, _, hab, hb, _⟩ := atL_three hg hv
    rw [openV_yes hg hv hat] at R0 R1 R2
    rw [hv] at hv1
    have h30 := isGraphB_len hg
    have hn := isGraphB_n hg
    by_cases h20 : n + 2 > 20
    · have hlv : limV (n + 2) (ovI n es v a b) = (0, [], 3) := by unfold limV; rw [if_pos h20]
      rw [hlv] at R0 R1 R2
      obtain rfl : 0 = N := R0.out
      obtain rfl : [] = rs := R1.out
      obtain rfl : 3 = r := R2.out
      exact specOpen_err n A c es v w hl hr 3 true true hg hv1 (.inr ⟨rfl, rfl, by omega, h20, rfl⟩)
    · have hlv : limV (n + 2) (ovI n es v a b) = (n + 2, madeE (ovI n es v a b), 0) := by unfold limV; rw [if_neg h20]
      rw [hlv] at R0 R1 R2
      obtain rfl : n + 2 = N := R0.out
      obtain rfl : madeE (ovI n es v a b) = rs := R1.out
      obtain rfl : 0 = r := R2.out
      rw [← ov_made n es v a b hab hb]
      exact specOpen_yes n A c es v w (by omega) hr hg hv1 (by omega) a0 a b hat hab
  · rw [openV_no hall] at R0 R1 R2
    obtain rfl : 0 = N := R0.out
    obtain rfl : [] = rs := R1.out
    have hv : gcode (isGraphB n es) (inB v 0 (n - 1)) = r := R2.out
    exact specOpen_err n A c es v w hl hr r (isGraphB n es) (inB v 0 (n - 1)) rfl hv1 (.inl ⟨hv, by rw [← hv]; exact gcode_no hall⟩)
end Go.Proofs.Ytblidpodbpoaeaa
