/- StrongNumber of the reference. -/
import Derived.Test.YtkpnplldnihalaaLp10
import Derived.Test.YtkpnplldnihalaaSt4
namespace Go.Proofs.Ytkpnplldnihalaa
open Go.RowKit
set_option linter.unusedSimpArgs false
set_option linter.unusedVariables false
set_option maxRecDepth 20000

theorem areM_rows (rel : Nat → Nat → Bool) (m i j : Nat) (h : j < i) (hi : i < m) : areM (rowsAt rel m 0) i j = rel i j := by
  have h9 := rowsAt_are rel m i j h hi
  have hb : rowsAt rel m 0 i j = 0 ∨ rowsAt rel m 0 i j = 1 := by unfold rowsAt; split <;> simp
  unfold areM
  rw [← h9]
  rcases hb with hb | hb <;> simp [hb]

set_option maxHeartbeats 2000000 in
theorem specSn_b (n : Int) (A : Option Addr) (c : Nat) (es : List (Int × Int)) (w : World) (hl : es.length ≤ 1048576) (hr : RdE w A es) (r v : Int) (Hr : Hid ((snOf n es).1 = r)) (Hv : Hid ((snOf n es).2 = v)) :
    Calls Try.prog 40 #[.agg #[.int .i64 n, .slice A es.length c]] w fun e w' => e = .returned (.tuple #[.int .i64 r, .int .i64 v]) ∧ Below w.heap.size w w' := by
  obtain ⟨qg, hg⟩ : ∃ q, Hid (isGraphB n es = q) := ⟨_, rfl⟩
  have cg := fun W (hW : Below w.heap.size w W) => l01Is_b n A c es W qg hg hl (hr.below hW)
  cases qg
  · have Hr2 : Hid (0 = r) := by show _ = _; rw [← Hr.out, snOf, hg.out]; rfl
    have Hv2 : Hid (1 = v) := by show _ = _; rw [← Hv.out, snOf, hg.out]; rfl
    clear Hr Hv hr hg
    generalize es.length = L at *
    go_enter Try.func40, Try.ntmps40
    go_wp2_with fail
    refine (cg _ (by (repeat' (first | (with_reducible exact Below.refl _ _) | (with_reducible assumption) | (with_reducible refine Below.alloc ?_ ?_ _) | (with_reducible refine Below.drew ?_) | (with_reducible refine below_drewN ?_ _) | (with_reducible refine Below.setCell ?_ ?_ _) | (with_reducible refine Below.trans ?_ (Below.mono (by assumption) ?_)) | (first | omega | (simp only [World.size_alloc, World.size_setCell, World.size_drew]; omega) | (simp; omega) | (simp; done)))))).mono ?_
    rintro e w1 ⟨rfl, hb1⟩
    go_wp2
    go_ret2
    exact ⟨by rw [← Hr2.out, ← Hv2.out]; rfl, by (repeat' (first | (with_reducible exact Below.refl _ _) | (with_reducible assumption) | (with_reducible refine Below.alloc ?_ ?_ _) | (with_reducible refine Below.drew ?_) | (with_reducible refine below_drewN ?_ _) | (with_reducible refine Below.setCell ?_ ?_ _) | (with_reducible refine Below.trans ?_ (Below.mono (by assumption) ?_)) | (first | omega | (simp only [World.size_alloc, World.size_setCell, World.size_drew]; omega) | (simp; omega) | (simp; done))))⟩
  by_cases h : (10 : Int) < n
  · have Hr2 : Hid (0 = r) := by show _ = _; rw [← Hr.out, snOf, hg.out]; simp [scode, gcode, h]
    have Hv2 : Hid (3 = v) := by show _ = _; rw [← Hv.out, snOf, hg.out]; simp [scode, gcode, h]
    clear Hr Hv hr hg
    generalize es.length = L at *
    go_enter Try.func40, Try.ntmps40
    go_wp2_with fail
    refine (cg _ (by (repeat' (first | (with_reducible exact Below.refl _ _) | (with_reducible assumption) | (with_reducible refine Below.alloc ?_ ?_ _) | (with_reducible refine Below.drew ?_) | (with_reducible refine below_drewN ?_ _) | (with_reducible refine Below.setCell ?_ ?_ _) | (with_reducible refine Below.trans ?_ (Below.mono (by assumption) ?_)) | (first | omega | (simp only [World.size_alloc, World.size_setCell, World.size_drew]; omega) | (simp; omega) | (simp; done)))))).mono ?_
    rintro e w1 ⟨rfl, hb1⟩
    simp only [World.size_alloc, World.size_setCell, World.size_drew] at hb1; have B1 : Below w.heap.size w w1 := by (repeat' (first | (with_reducible exact Below.refl _ _) | (with_reducible assumption) | (with_reducible refine Below.alloc ?_ ?_ _) | (with_reducible refine Below.drew ?_) | (with_reducible refine below_drewN ?_ _) | (with_reducible refine Below.setCell ?_ ?_ _) | (with_reducible refine Below.trans ?_ (Below.mono (by assumption) ?_)) | (first | omega | (simp only [World.size_alloc, World.size_setCell, World.size_drew]; omega) | (simp; omega) | (simp; done))))
    have K1 : Blk w1 w.heap.size 30 #[.int .i64 n, .slice A L c] := (Blk.new' _ rfl).below hb1 (by omega)
    have d10 := K1.cellAt 0 _ rfl; have d11 := K1.cellAt 1 _ rfl; have z1 := hb1.size; simp only [World.size_alloc, World.size_setCell, World.size_drew] at z1
    go_wp2
    go_ret2
    exact ⟨by rw [← Hr2.out, ← Hv2.out]; rfl, B1⟩
  · have b2 := isGraphB_len hg.out
    have hp0 : 0 < es.length := by
      obtain ⟨a, b, c, _, _, h3, _⟩ := graph_three hg.out
      omega
    obtain ⟨⟨k1, k2⟩, k3, k4⟩ := numK_spec (are := closeAre es) (T := es.length) (by omega)
    obtain ⟨K, HK⟩ : ∃ K, Hid (numK (closeAre es) es.length = K) := ⟨_, rfl⟩
    rw [HK.out] at k1 k2 k3 k4
    have Hr2 : Hid ((K : Int) = r) := by show _ = _; rw [← Hr.out, snOf, hg.out]; simp [scode, gcode, h, HK.out]
    have Hv2 : Hid (0 = v) := by show _ = _; rw [← Hv.out, snOf, hg.out]; simp [scode, gcode, h]
    have hcg := fun k => okK_congr (are := areM (rowsAt (closeAre es) es.length 0)) (are' := closeAre es) (T := es.length) (fun i j h1 h2 => areM_rows _ _ i j h1 h2) k
    have cr := fun (W : World) (hW : Below w.heap.size w W) => l08RowsS_b n A c es W hp0 (by omega) (hr.below hW)
    have cl := fun (W : World) (g c' : Nat) (R : Nat → Nat) (hM : Mat W g 0 es.length es.length R (rowsAt (closeAre es) es.length 0)) =>
      l08Least_b g 0 c' es.length K R _ W k1 (by omega) (by omega) (by show _ = _; rw [hcg]; exact k3) (fun j h1 h2 => by rw [hcg]; exact k4 j h1 h2) hM
    have Cl := Lib.hid cl
    clear Hr Hv hr hg HK k1 k2 k3 k4 cl hcg
    generalize rowsAt (closeAre es) es.length 0 = X at *
    generalize es.length = L at *
    go_enter Try.func40, Try.ntmps40
    go_wp2_with fail
    refine (cg _ (by (repeat' (first | (with_reducible exact Below.refl _ _) | (with_reducible assumption) | (with_reducible refine Below.alloc ?_ ?_ _) | (with_reducible refine Below.drew ?_) | (with_reducible refine below_drewN ?_ _) | (with_reducible refine Below.setCell ?_ ?_ _) | (with_reducible refine Below.trans ?_ (Below.mono (by assumption) ?_)) | (first | omega | (simp only [World.size_alloc, World.size_setCell, World.size_drew]; omega) | (simp; omega) | (simp; done)))))).mono ?_
    rintro e w1 ⟨rfl, hb1⟩
    simp only [World.size_alloc, World.size_setCell, World.size_drew] at hb1; have B1 : Below w.heap.size w w1 := by (repeat' (first | (with_reducible exact Below.refl _ _) | (with_reducible assumption) | (with_reducible refine Below.alloc ?_ ?_ _) | (with_reducible refine Below.drew ?_) | (with_reducible refine below_drewN ?_ _) | (with_reducible refine Below.setCell ?_ ?_ _) | (with_reducible refine Below.trans ?_ (Below.mono (by assumption) ?_)) | (first | omega | (simp only [World.size_alloc, World.size_setCell, World.size_drew]; omega) | (simp; omega) | (simp; done))))
    have K1 : Blk w1 w.heap.size 30 #[.int .i64 n, .slice A L c] := (Blk.new' _ rfl).below hb1 (by omega)
    have d10 := K1.cellAt 0 _ rfl; have d11 := K1.cellAt 1 _ rfl; have z1 := hb1.size; simp only [World.size_alloc, World.size_setCell, World.size_drew] at z1
    go_wp2_with fail
    refine (cr _ B1).mono ?_
    rintro e w2 ⟨g, c', R, rfl, hM, hb2⟩
    have B2 : Below w.heap.size w w2 := B1.trans (hb2.mono B1.size)
    have c2 := Cl.out _ _ c' _ hM
    clear hM
    go_wp2_with fail
    refine c2.mono ?_
    rintro e w3 ⟨rfl, hb3⟩
    go_wp2
    go_ret2
    exact ⟨by rw [← Hr2.out, ← Hv2.out]; rfl, B2.trans (hb3.mono B2.size)⟩
end Go.Proofs.Ytkpnplldnihalaa
