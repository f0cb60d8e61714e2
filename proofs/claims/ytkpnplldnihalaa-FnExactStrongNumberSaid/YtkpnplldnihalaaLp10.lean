/- StrongNumber of the program. -/
import Derived.Test.YtkpnplldnihalaaLp9
import Derived.Test.YtkpnplldnihalaaEx5
namespace Go.Proofs.Ytkpnplldnihalaa
open Go.RowKit
set_option linter.unusedSimpArgs false
set_option linter.unusedVariables false
set_option maxRecDepth 20000

/-- What StrongNumber returns. -/
def snOf (n : Int) (es : List (Int × Int)) : Int × Int :=
  if scode (isGraphB n es) true n 10 = 0 then ((numK (closeAre es) es.length : Nat), 0) else (0, scode (isGraphB n es) true n 10)

set_option maxHeartbeats 2000000 in
theorem implSn_b (n : Int) (A : Option Addr) (c : Nat) (es : List (Int × Int)) (w : World) (hl : es.length ≤ 1048576) (hr : RdE w A es) (r v : Int) (Hr : Hid ((snOf n es).1 = r)) (Hv : Hid ((snOf n es).2 = v)) :
    Calls Try.prog 41 #[.agg #[.int .i64 n, .slice A es.length c]] w fun e w' => e = .returned (.tuple #[.int .i64 r, .int .i64 v]) ∧ Below w.heap.size w w' := by
  obtain ⟨qg, hg⟩ : ∃ q, Hid (isGraphB n es = q) := ⟨_, rfl⟩
  obtain ⟨u, Hu⟩ : ∃ u, Hid (scode qg true n 10 = u) := ⟨_, rfl⟩
  have cg := fun W (hW : Below w.heap.size w W) => smallCode_b n A c es 10 W qg true u hg Hu hl (hr.below hW)
  by_cases h : u = 0
  · subst h
    obtain ⟨rfl, hn⟩ := scode_zero Hu.out
    have b2 := isGraphB_len hg.out
    have hp0 : 0 < es.length := by
      obtain ⟨a, b, c, _, _, h3, _⟩ := graph_three hg.out
      omega
    have hge := close_three hg.out
    obtain ⟨⟨k1, k2⟩, k3, k4⟩ := numK_spec (are := closeAre es) (T := es.length) (by omega)
    obtain ⟨K, HK⟩ : ∃ K, Hid (numK (closeAre es) es.length = K) := ⟨_, rfl⟩
    rw [HK.out] at hge k1 k2 k3 k4
    have Hr2 : Hid ((K : Int) = r) := by show _ = _; rw [← Hr.out, snOf, hg.out, if_pos Hu.out, HK.out]
    have Hv2 : Hid (0 = v) := by show _ = _; rw [← Hv.out, snOf, hg.out, if_pos Hu.out]
    have cn := fun W (hW : Below w.heap.size w W) => closeEdges_b n A c es W (by omega) (hr.below hW)
    have cl := fun (W : World) (An : Option Addr) (c' : Nat) (hX : RdL W An (nbrs (closeAre es) es.length)) => leastNumber_b es.length c' 3 K An (closeAre es) W (by omega) hge (by omega) (by omega) k3 (fun j h1 h2 => k4 j (by omega) h2) hX
    have Cl := Lib.hid cl
    clear Hr Hv hr hg Hu HK k1 k2 k3 k4 hge cl
    generalize nbrs (closeAre es) es.length = X at *
    generalize es.length = L at *
    go_enter Try.func41, Try.ntmps41
    go_wp2_with fail
    refine (cg _ (by (repeat' (first | (with_reducible exact Below.refl _ _) | (with_reducible assumption) | (with_reducible refine Below.alloc ?_ ?_ _) | (with_reducible refine Below.drew ?_) | (with_reducible refine below_drewN ?_ _) | (with_reducible refine Below.setCell ?_ ?_ _) | (with_reducible refine Below.trans ?_ (Below.mono (by assumption) ?_)) | (first | omega | (simp only [World.size_alloc, World.size_setCell, World.size_drew]; omega) | (simp; omega) | (simp; done)))))).mono ?_
    rintro e w1 ⟨rfl, hb1⟩
    simp only [World.size_alloc, World.size_setCell, World.size_drew] at hb1; have B1 : Below w.heap.size w w1 := by (repeat' (first | (with_reducible exact Below.refl _ _) | (with_reducible assumption) | (with_reducible refine Below.alloc ?_ ?_ _) | (with_reducible refine Below.drew ?_) | (with_reducible refine below_drewN ?_ _) | (with_reducible refine Below.setCell ?_ ?_ _) | (with_reducible refine Below.trans ?_ (Below.mono (by assumption) ?_)) | (first | omega | (simp only [World.size_alloc, World.size_setCell, World.size_drew]; omega) | (simp; omega) | (simp; done))))
    have K1 : Blk w1 w.heap.size 30 #[.int .i64 n, .slice A L c] := (Blk.new' _ rfl).below hb1 (by omega)
    have d10 := K1.cellAt 0 _ rfl; have d11 := K1.cellAt 1 _ rfl; have z1 := hb1.size; simp only [World.size_alloc, World.size_setCell, World.size_drew] at z1
    go_wp2_with fail
    refine (cn _ B1).mono ?_
    rintro e w2 ⟨g, rfl, hX, hb2⟩
    have B2 : Below w.heap.size w w2 := B1.trans (hb2.mono B1.size)
    have c2 := Cl.out _ _ L hX
    clear hX
    go_wp2_with fail
    refine c2.mono ?_
    rintro e w3 ⟨rfl, hb3⟩
    go_wp2
    go_ret2
    exact ⟨by rw [← Hr2.out, ← Hv2.out]; rfl, B2.trans (hb3.mono B2.size)⟩
  · have Hr2 : Hid (0 = r) := by show _ = _; rw [← Hr.out, snOf, hg.out, if_neg (by rw [Hu.out]; exact h)]
    have Hv2 : Hid (u = v) := by show _ = _; rw [← Hv.out, snOf, hg.out, if_neg (by rw [Hu.out]; exact h), Hu.out]
    have g1 : (u != 0) = true := by simpa using h
    have g2 : (u == 0) = false := by simpa using h
    clear Hr Hv hr hg Hu
    generalize es.length = L at *
    go_enter Try.func41, Try.ntmps41
    go_wp2_with fail
    refine (cg _ (by (repeat' (first | (with_reducible exact Below.refl _ _) | (with_reducible assumption) | (with_reducible refine Below.alloc ?_ ?_ _) | (with_reducible refine Below.drew ?_) | (with_reducible refine below_drewN ?_ _) | (with_reducible refine Below.setCell ?_ ?_ _) | (with_reducible refine Below.trans ?_ (Below.mono (by assumption) ?_)) | (first | omega | (simp only [World.size_alloc, World.size_setCell, World.size_drew]; omega) | (simp; omega) | (simp; done)))))).mono ?_
    rintro e w1 ⟨rfl, hb1⟩
    go_wp2
    go_ret2
    exact ⟨by rw [← Hr2.out, ← Hv2.out]; rfl, by (repeat' (first | (with_reducible exact Below.refl _ _) | (with_reducible assumption) | (with_reducible refine Below.alloc ?_ ?_ _) | (with_reducible refine Below.drew ?_) | (with_reducible refine below_drewN ?_ _) | (with_reducible refine Below.setCell ?_ ?_ _) | (with_reducible refine Below.trans ?_ (Below.mono (by assumption) ?_)) | (first | omega | (simp only [World.size_alloc, World.size_setCell, World.size_drew]; omega) | (simp; omega) | (simp; done))))⟩
end Go.Proofs.Ytkpnplldnihalaa
