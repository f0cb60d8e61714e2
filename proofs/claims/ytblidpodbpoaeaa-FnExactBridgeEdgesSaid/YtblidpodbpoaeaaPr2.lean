/- limited: a graph of edges that a function value gives. No statement of the program is proved here. -/
import Derived.Test.YtblidpodbpoaeaaPr1
import Derived.Test.YtblidpodbpoaeaaCi2
namespace Go.Proofs.Ytblidpodbpoaeaa
open Go.RowKit
set_option linter.unusedSimpArgs false
set_option linter.unusedVariables false
set_option maxRecDepth 20000

/-- The graph of n vertices and the edges es, if there are not too many. -/
def limV (n : Int) (es : List (Int × Int)) : Int × List (Int × Int) × Int := if n > 20 then (0, [], 3) else (n, madeE es, 0)

set_option maxHeartbeats 2000000 in
theorem limited_b (n : Int) (g : Nat) (lb : Array Value) (es : List (Int × Int)) (w : World) (eg : Ent g) (h0 : 0 < es.length) (hl : es.length ≤ 10000)
    (hp : n ≤ 20 → ∀ W, Below w.heap.size w W → Calls Try.prog g lb W fun e w' => ∃ A c, e = .returned (.slice A es.length c) ∧ RdE w' A es ∧ Below W.heap.size W w') :
    Calls Try.prog 44 #[.int .i64 n, .func (.func g) #[] lb] w fun e w' => RetG w' w.heap.size e (limV n es).1 (limV n es).2.1 (limV n es).2.2 ∧ Below w.heap.size w w' := by
  have eg0 := eg
  unfold Ent at eg0
  clear eg
  by_cases h : n ≤ 20
  · have hv : limV n es = (n, madeE es, 0) := by unfold limV; rw [if_neg (by omega)]
    rw [hv]
    have Hp := Lib.hid (hp h)
    have Hg := Lib.hid fun A c W (hr : RdE W A es) => graphOf_b n A c es W h0 hl hr
    have g1 : decide (n > 20) = false := by simp; omega
    have Hm : Hid ((madeE es).length = es.length) := madeE_len es
    clear hp hv
    generalize es.length = m at *
    go_enter Try.func44, Try.ntmps44
    go_wp2_with fail
    refine (Hp.out (w.alloc (.cells #[.int .i64 0, .slice none 0 0] 24)) (by (repeat' (first | (with_reducible exact Below.refl _ _) | (with_reducible assumption) | (with_reducible refine Below.alloc ?_ ?_ _) | (with_reducible refine Below.drew ?_) | (with_reducible refine below_drewN ?_ _) | (with_reducible refine Below.setCell ?_ ?_ _) | (with_reducible refine Below.trans ?_ (Below.mono (by assumption) ?_)) | (first | omega | (simp only [World.size_alloc, World.size_setCell, World.size_drew]; omega) | (simp; omega) | (simp; done)))))).mono ?_
    rintro e w1 ⟨A1, c1, rfl, hr1, hb1⟩
    simp only [World.size_alloc, World.size_setCell, World.size_drew] at hb1
    go_wp2_with fail
    refine (Hg.out _ _ _ hr1).mono ?_
    rintro e w2 ⟨A2, c2, rfl, hF2, hb2⟩
    have hZ1 : Blk w1 w.heap.size 24 #[.int .i64 0, .slice none 0 0] := (Blk.new w _ _).below hb1 (by simp)
    have z1 := hb1.size
    simp only [World.size_alloc, World.size_setCell, World.size_drew] at z1
    have hZ2 := hZ1.below hb2 hZ1.lt
    have x0 := hZ2.cellAt 0 _ rfl
    have x1 : (w2.setCell ⟨w.heap.size, 0, none⟩ (.int .i64 n)).cell? ⟨w.heap.size, 1, none⟩ = some (.slice none 0 0) := (sc_other (by simp)).trans (hZ2.cellAt 1 _ rfl)
    have f0 := hZ2.frozen 0
    have f1 := hZ2.frozen 1
    have HZ2 := Lib.hid hZ2
    have HF2 := Lib.hid hF2
    have Hb2 : Hid (Below w.heap.size w w2) := by show Below _ _ _; (repeat' (first | (with_reducible exact Below.refl _ _) | (with_reducible assumption) | (with_reducible refine Below.alloc ?_ ?_ _) | (with_reducible refine Below.drew ?_) | (with_reducible refine below_drewN ?_ _) | (with_reducible refine Below.setCell ?_ ?_ _) | (with_reducible refine Below.trans ?_ (Below.mono (by assumption) ?_)) | (first | omega | (simp only [World.size_alloc, World.size_setCell, World.size_drew]; omega) | (simp; omega) | (simp; done))))
    clear hZ1 hZ2 hF2 hb1 hb2 hr1
    go_wp2
    refine ret_cell_tmp Try.results44 Try.underlying24 rfl (by kernel_rfl) rfl ((HZ2.out.set_ 0 (.int .i64 n)).set_ 1 (.slice A2 m c2)) rfl rfl ⟨⟨A2, c2, ?_, FrE.mono (n0 := w1.heap.size) ?_ (by omega)⟩, (Hb2.out.setCell (Nat.le_refl _) _).setCell (Nat.le_refl _) _⟩
    · show _ = Ending.returned (.tuple #[.agg #[_, .slice A2 (madeE es).length c2], _])
      rw [Hm.out]; rfl
    · exact HF2.out.away (((Only.refl _ _).set 0 _).set 1 _ : Only (some ⟨w.heap.size, 0, none⟩) w2 _) (by omega)
  · have hv : limV n es = (0, [], 3) := by unfold limV; rw [if_pos (by omega)]
    rw [hv]
    have g1 : decide (n > 20) = true := by simp; omega
    have hB : Blk (w.alloc (.cells #[.int .i64 0, .slice none 0 0] 24)) w.heap.size 24 #[.int .i64 0, .slice none 0 0] := Blk.new w _ _
    clear hp hv
    go_enter Try.func44, Try.ntmps44
    go_wp2
    refine ret_cell_tmp Try.results44 Try.underlying24 rfl (by kernel_rfl) rfl hB rfl rfl ⟨⟨none, 0, rfl, FrE.nil⟩, by (repeat' (first | (with_reducible exact Below.refl _ _) | (with_reducible assumption) | (with_reducible refine Below.alloc ?_ ?_ _) | (with_reducible refine Below.drew ?_) | (with_reducible refine below_drewN ?_ _) | (with_reducible refine Below.setCell ?_ ?_ _) | (with_reducible refine Below.trans ?_ (Below.mono (by assumption) ?_)) | (first | omega | (simp only [World.size_alloc, World.size_setCell, World.size_drew]; omega) | (simp; omega) | (simp; done))))⟩
end Go.Proofs.Ytblidpodbpoaeaa
