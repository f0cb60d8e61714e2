/- l01Made and graphOf: a graph of edges in order. No statement of the program is proved here. -/
import Derived.Test.YtjgmoffkecnmcaaGreatGs1
import Derived.Test.YtjgmoffkecnmcaaGreatGm3
import Derived.StillTailTactics
namespace Go.Proofs.YtjgmoffkecnmcaaGreat
open Go.RowKit
set_option linter.unusedSimpArgs false
set_option linter.unusedVariables false
set_option maxRecDepth 20000

set_option maxHeartbeats 4000000 in
theorem l01Made_b (n : Int) (A : Option Addr) (c : Nat) (es : List (Int × Int)) (w : World) (hl : es.length ≤ 10000) (hr : RdE w A es) :
    Calls Tryz.prog 19 #[.int .i64 n, .slice A es.length c] w fun e w' => ∃ A' c', e = .returned (.agg #[.int .i64 n, .slice A' es.length c']) ∧ FrE w' w.heap.size A' (madeE es) ∧ Below w.heap.size w w' := by
  have Hs := Lib.hid fun W (hW : Below w.heap.size w W) => l01Sort_b A c es W hl (hr.below hW)
  clear hr
  generalize es.length = m at *
  go_enter Tryz.func19, Tryz.ntmps19
  go_wp2_with fail
  refine (Hs.out _ (by (repeat' (first | (with_reducible exact Below.refl _ _) | (with_reducible assumption) | (with_reducible refine Below.alloc ?_ ?_ _) | (with_reducible refine Below.drew ?_) | (with_reducible refine below_drewN ?_ _) | (with_reducible refine Below.setCell ?_ ?_ _) | (with_reducible refine Below.trans ?_ (Below.mono (by assumption) ?_)) | (first | omega | (simp only [World.size_alloc, World.size_setCell, World.size_drew]; omega) | (simp; omega) | (simp; done)))))).mono ?_
  rintro e w2 ⟨A', c', rfl, hF, hb⟩
  have hB : Blk w2 w.heap.size 28 #[.int .i64 0, .slice none 0 0] := (Blk.new w _ _).below hb (by simp)
  have k0 := hB.cellAt 0 _ rfl
  have k1 := hB.cellAt 1 _ rfl
  have f0 := hB.frozen 0
  have f1 := hB.frozen 1
  have k2 : (w2.setCell ⟨w.heap.size, 0, none⟩ (.int .i64 n)).cell? ⟨w.heap.size, 1, none⟩ = some (.slice none 0 0) := (sc_other (by simp)).trans k1
  go_wp2
  refine ret_cell Tryz.results19 Tryz.underlying28 rfl (by kernel_rfl) rfl ((hB.set_ 0 (.int .i64 n)).set_ 1 (.slice A' m c')) rfl rfl ⟨A', c', rfl, FrE.mono (n0 := w.heap.size + 1) ?_ (by omega), ?_⟩
  · exact (hF.mono (by simp)).away (((Only.refl _ _).set 0 _).set 1 _ : Only (some ⟨w.heap.size, 0, none⟩) w2 _) (by simp)
  · exact (((Below.alloc (Below.refl _ _) (Nat.le_refl _) _).trans (hb.mono (by simp))).setCell (Nat.le_refl _) _).setCell (Nat.le_refl _) _

theorem set2 {z : Array Value} (x y : Value) (h : z.size = 2) : (z.setIfInBounds 0 x).setIfInBounds 1 y = #[x, y] := by
  rcases z with ⟨l⟩
  match l, h with
  | [a, b], _ => rfl
theorem own_nilE (w : World) (base : Nat) (e : TypeId) : w.ownsRow base e 2 (.slice none 0 0) 0 (cE []) := ⟨rfl, .inl ⟨rfl, rfl⟩⟩

set_option maxHeartbeats 8000000 in
theorem graphOf_b (n : Int) (A : Option Addr) (c : Nat) (es : List (Int × Int)) (w : World) (h0 : 0 < es.length) (hl : es.length ≤ 10000) (hr : RdE w A es) :
    Calls Tryz.prog 28 #[.int .i64 n, .slice A es.length c] w fun e w' => ∃ A' c', e = .returned (.agg #[.int .i64 n, .slice A' es.length c']) ∧ FrE w' w.heap.size A' (madeE es) ∧ Below w.heap.size w w' := by
  have Hre : Hid (∀ W, Below w.heap.size w W → RdE W A es) := fun W hW => hr.below hW
  obtain ⟨m, Hm⟩ : ∃ m, Hid (es.length = m) := ⟨_, rfl⟩
  rw [Hm.out] at hl h0 ⊢
  obtain ⟨b, off, rfl, _, _⟩ := hr.pos (by rw [Hm.out]; exact h0)
  clear hr
  go_enter Tryz.func28, Tryz.ntmps28
  go_wp2
  go_loopw [12] (fun i wr => ∃ (k : Nat) (v : Value), k ≤ m ∧ i = .int .i64 k ∧ Hid (Blk wr (w.heap.size + 1) 28 #[.int .i64 n, v]) ∧ Hid (∃ z, Blk wr w.heap.size 28 z ∧ z.size = 2) ∧ Hid (wr.ownsRow (w.heap.size + 2) 40 2 v k (cE ((es.take k).map mmE))) ∧ Hid (Below w.heap.size w wr)) (fun i _ => m - (intOf i).toNat)
  case atStart => exact ⟨0, _, Nat.zero_le _, rfl, Blk.new' _ (by simp), ⟨_, (Blk.new w _ _).alloc _, rfl⟩, own_nilE _ _ _, by show Below _ _ _; (repeat' (first | (with_reducible exact Below.refl _ _) | (with_reducible assumption) | (with_reducible refine Below.alloc ?_ ?_ _) | (with_reducible refine Below.drew ?_) | (with_reducible refine below_drewN ?_ _) | (with_reducible refine Below.setCell ?_ ?_ _) | (with_reducible refine Below.trans ?_ (Below.mono (by assumption) ?_)) | (first | omega | (simp only [World.size_alloc, World.size_setCell, World.size_drew]; omega) | (simp; omega) | (simp; done))))⟩
  case round =>
    obtain ⟨k, v, hk, rfl, HB, HZ, Hown, Hbel⟩ := hrel
    have hsz := Hbel.out.size
    obtain ⟨A1, c1, rfl⟩ := own_form Hown.out
    have k0 : wr.cell? ⟨w.heap.size + 1, 0, none⟩ = some (.int .i64 n) := HB.out.cellAt 0 _ rfl
    have k1 : wr.cell? ⟨w.heap.size + 1, 1, none⟩ = some (.slice A1 k c1) := HB.out.cellAt 1 _ rfl
    by_cases hlt : k < m
    · obtain ⟨b2, off2, e2, hb, hc⟩ := (Hre.out wr Hbel.out).pos (by rw [Hm.out]; omega)
      injection e2 with e2
      injection e2 with e2 e3 _
      subst e2; subst e3
      obtain ⟨hc0, hc1⟩ := hc k (by rw [Hm.out]; exact hlt)
      obtain ⟨⟨x, y⟩, Hxy⟩ : ∃ x, Hid (es.getD k (0, 0) = x) := ⟨_, rfl⟩
      rw [Hxy.out] at hc0 hc1
      dsimp only at hc0 hc1
      clear hc
      obtain ⟨P, HP⟩ : ∃ P, Hid ((es.take k).map mmE = P) := ⟨_, rfl⟩
      rw [HP.out] at Hown
      obtain ⟨ek, ek2, ek3⟩ := idxF k m hlt
      have Hmm : Hid (mmE (es.getD k (0, 0)) = (min x y, max x y)) := by show _ = _; rw [Hxy.out]; rfl
      have zg := HB.out.lt
      have k2 : (wr.alloc (.cells #[.int .i64 x, .int .i64 y] 40)).cell? ⟨w.heap.size + 1, 1, none⟩ = some (.slice A1 k c1) := (HB.out.alloc _).cellAt 1 _ rfl
      have hB3 : Below w.heap.size w ((wr.alloc (.cells #[.int .i64 x, .int .i64 y] 40)).alloc (.cells #[.int .i64 (min x y), .int .i64 (max x y)] 40)) := by have := Hbel.out; (repeat' (first | (with_reducible exact Below.refl _ _) | (with_reducible assumption) | (with_reducible refine Below.alloc ?_ ?_ _) | (with_reducible refine Below.drew ?_) | (with_reducible refine below_drewN ?_ _) | (with_reducible refine Below.setCell ?_ ?_ _) | (with_reducible refine Below.trans ?_ (Below.mono (by assumption) ?_)) | (first | omega | (simp only [World.size_alloc, World.size_setCell, World.size_drew]; omega) | (simp; omega) | (simp; done))))
      have hown2 := own_below Hown.out (show Below wr.heap.size wr ((wr.alloc (.cells #[.int .i64 x, .int .i64 y] 40)).alloc (.cells #[.int .i64 (min x y), .int .i64 (max x y)] 40)) by (repeat' (first | (with_reducible exact Below.refl _ _) | (with_reducible assumption) | (with_reducible refine Below.alloc ?_ ?_ _) | (with_reducible refine Below.drew ?_) | (with_reducible refine below_drewN ?_ _) | (with_reducible refine Below.setCell ?_ ?_ _) | (with_reducible refine Below.trans ?_ (Below.mono (by assumption) ?_)) | (first | omega | (simp only [World.size_alloc, World.size_setCell, World.size_drew]; omega) | (simp; omega) | (simp; done)))))
      have hnew : RdE ((wr.alloc (.cells #[.int .i64 x, .int .i64 y] 40)).alloc (.cells #[.int .i64 (min x y), .int .i64 (max x y)] 40)) (some ⟨wr.heap.size + 1, 0, none⟩) [(min x y, max x y)] :=
        blkE_rd (t := 40) (es := [(min x y, max x y)]) (Blk.new' (n := wr.heap.size + 1) _ (by simp))
      have hB4 : Blk ((wr.alloc (.cells #[.int .i64 x, .int .i64 y] 40)).alloc (.cells #[.int .i64 (min x y), .int .i64 (max x y)] 40)) (w.heap.size + 1) 28 #[.int .i64 n, .slice A1 k c1] := (HB.out.alloc _).alloc _
      go_wp2_with (first
        | (at_builtin; refine wpList_appendE rfl rfl (w.heap.size + 2) _ k P rfl hown2 (wr.heap.size + 1) 0 1 1 [(min x y, max x y)] rfl rfl hnew (by omega) (by omega) (by simp; omega) ?_))
      intro v' w3 hown3 hfr hgr
      have hb3 := hfr w.heap.size w (by omega) hB3
      obtain ⟨g, c2, rfl, hg1, hg2⟩ := own_someI hown3 (by omega)
      have Hown3 : Hid (w3.ownsRow (w.heap.size + 2) 40 2 (.slice (some ⟨g, 0, none⟩) (k + 1) c2) (k + 1) (cE ((es.take (k + 1)).map mmE))) := by
        show World.ownsRow _ _ _ _ _ _ _
        rw [List.take_add_one, List.map_append, HP.out, List.getElem?_eq_getElem (by rw [Hm.out]; exact hlt)]
        have h9 : es[k]'(by rw [Hm.out]; exact hlt) = es.getD k (0, 0) := by simp [List.getD, Hm.out, hlt]
        rw [h9]
        show World.ownsRow _ _ _ _ _ _ (cE (P ++ [mmE (es.getD k (0, 0))]))
        rw [Hmm.out]
        exact hown3
      obtain ⟨z, HZ1, HZ2⟩ := HZ.out
      have HZ3 : Hid (∃ z, Blk w3 w.heap.size 28 z ∧ z.size = 2) := ⟨z, (((HZ1.alloc _).alloc _).below (hfr (w.heap.size + 2) _ (Nat.le_refl _) (Below.refl _ _)) (by omega)), HZ2⟩
      have HB5 : Hid (Blk w3 (w.heap.size + 1) 28 #[.int .i64 n, .slice A1 k c1]) := hB4.below (hfr (w.heap.size + 2) _ (Nat.le_refl _) (Below.refl _ _)) (by omega)
      have Hb3 : Hid (Below w.heap.size w w3) := hb3
      have k3 : w3.cell? ⟨w.heap.size + 1, 1, none⟩ = some (.slice A1 k c1) := HB5.out.cellAt 1 _ rfl
      have fz := HB5.out.frozen 1
      clear hown3 hfr hgr hb3 hown2 hnew hB4 hB3 HZ1 HZ2 HZ Hown k0 k1 k2 hc0 hc1 HB
      go_wp2
      refine ⟨⟨k + 1, _, by omega, by go_num, HB5.out.set_ _ _, ?_, own_set_far Hown3.out (by omega), Hb3.out.setCell (by show _ ≤ w.heap.size + 1; omega) _⟩, by simp [intOf]; omega⟩
      obtain ⟨z, h1, h2⟩ := HZ3.out
      exact ⟨z, h1.far (by simp) _, h2⟩
    · obtain rfl : k = m := by omega
      obtain ⟨g, c2, hv, hg1, hg2⟩ := own_someI Hown.out (by omega)
      injection hv with hv _ hv3
      subst hv; subst hv3
      have hpl : (((es.take k).map mmE)).length = k := by simp [Hm.out]
      have cs := Lib.hid (sortFunc_b Hown.out hpl (by omega))
      have hfull : es.take k = es := List.take_of_length_le (by rw [Hm.out]; exact Nat.le_refl _)
      rw [hfull] at cs
      have zg := HB.out.lt
      go_wp2_with fail
      refine cs.out.mono ?_
      rintro e w3 ⟨rfl, hown3, hb3⟩
      have hB3 := HB.out.below hb3 (by omega)
      obtain ⟨z, hz1, hz2⟩ := HZ.out
      have HZ2 := Lib.hid hz2
      have hZ3 := hz1.below hb3 (by omega)
      have k3 : w3.cell? ⟨w.heap.size + 1, 0, none⟩ = some (.int .i64 n) := hB3.cellAt 0 _ rfl
      have k4 : w3.cell? ⟨w.heap.size + 1, 1, none⟩ = some (.slice (some ⟨g, 0, none⟩) k c1) := hB3.cellAt 1 _ rfl
      have k5 := hZ3.cellAt 0 _ (Array.getElem?_eq_getElem (by omega))
      have k6 : (w3.setCell ⟨w.heap.size, 0, none⟩ (.int .i64 n)).cell? ⟨w.heap.size, 1, none⟩ = some _ := (sc_other (by simp)).trans (hZ3.cellAt 1 _ (Array.getElem?_eq_getElem (by omega)))
      have fz := hZ3.frozen 0
      have fz1 := hZ3.frozen 1
      have Hown3 := Lib.hid hown3
      have Hb3 : Hid (Below w.heap.size w w3) := Hbel.out.trans (hb3.mono (by omega))
      have HZ3 := Lib.hid hZ3
      clear hown3 hb3 cs hB3 hZ3 hz1 k0 k1 zg HB HZ Hown Hbel
      go_wp2
      refine ret_cell Tryz.results28 Tryz.underlying28 rfl (by kernel_rfl) rfl ((HZ3.out.set_ 0 (.int .i64 n)).set_ 1 (.slice (some ⟨g, 0, none⟩) k c1)) (set2 _ _ HZ2.out) rfl ⟨_, c1, rfl, FrE.mono (n0 := w.heap.size + 2) ?_ (by omega), ?_⟩
      · exact (own_frE Hown3.out).away (((Only.refl _ _).set 0 _).set 1 _ : Only (some ⟨w.heap.size, 0, none⟩) w3 _) (by omega)
      · exact (Hb3.out.setCell (Nat.le_refl _) _).setCell (Nat.le_refl _) _
end Go.Proofs.YtjgmoffkecnmcaaGreat
