/- Whether a graph has one part. No statement of the program is proved here. -/
import Derived.Test.YtigdfcigoejjjaaDi3
import Derived.Test.YtigdfcigoejjjaaCd
namespace Go.Proofs.Ytigdfcigoejjjaa
open Go.RowKit
set_option linter.unusedSimpArgs false
set_option linter.unusedVariables false
set_option maxRecDepth 20000

theorem pS_zero : pS 0 = allP := by funext i; simp [pS, allP]
set_option maxHeartbeats 2000000 in
theorem isConnected_b (N : Nat) (A : Option Addr) (c : Nat) (es : List (Int × Int)) (w : World) (q : Bool) (hq : Hid (decide (partsN es allP N = 1) = q)) (hN : N ≤ 60) (hl : es.length ≤ 60) (hin : InN N es) (hr : RdE w A es) :
    Calls Try.prog 43 #[.agg #[.int .i64 N, .slice A es.length c]] w fun e w' => e = .returned (.bool q) ∧ Below w.heap.size w w' := by
  have c1 := Lib.hid fun W (hW : Below w.heap.size w W) => sides_b N A c es 0 W hN (by decide) hl hin (hr.below hW)
  simp only [pS_zero] at c1
  obtain ⟨P, HP⟩ : ∃ P, Hid (partsN es allP N = P) := ⟨_, rfl⟩
  have Hlen : Hid ((sidesL es allP N N).length = P) := (sidesL_len es allP N).trans HP.out
  rw [HP.out] at hq
  have h9 : ((P : Int) == 1) = q := by rw [← hq.out, Bool.eq_iff_iff]; simp; omega
  clear hq hin hr hl
  generalize es.length = L at *
  have B0 : Below w.heap.size w (w.alloc (.cells #[.int .i64 (N : Int), .slice A L c] 32)) := by (repeat' (first | (with_reducible exact Below.refl _ _) | (with_reducible assumption) | (with_reducible refine Below.alloc ?_ ?_ _) | (with_reducible refine Below.drew ?_) | (with_reducible refine below_drewN ?_ _) | (with_reducible refine Below.setCell ?_ ?_ _) | (with_reducible refine Below.trans ?_ (Below.mono (by assumption) ?_)) | (first | omega | (simp only [World.size_alloc, World.size_setCell, World.size_drew]; omega) | (simp; omega) | (simp; done))))
  go_enter Try.func43, Try.ntmps43
  go_wp2_with fail
  refine (c1.out _ B0).mono ?_
  rintro e w1 ⟨v, rfl, hLL, hb1⟩
  obtain ⟨A1, c1, rfl, _⟩ := hLL.form
  have hB := B0.trans (hb1.mono B0.size)
  rw [Hlen.out]
  clear hLL hb1
  go_wp2
  go_ret
  exact ⟨rfl, hB⟩
/-- connectedCode's answer. -/
def connCode (qg q : Bool) : Int := if qg then (if q then 0 else 5) else 1
set_option maxHeartbeats 2000000 in
theorem connectedCode_b (n : Int) (A : Option Addr) (c : Nat) (es : List (Int × Int)) (w : World) (qg q : Bool) (hq : Hid (isGraphB n es = qg)) (hc : Hid (decide (partsN es allP n.toNat = 1) = q)) (hl : es.length ≤ 1048576) (hr : RdE w A es) :
    Calls Try.prog 46 #[.agg #[.int .i64 n, .slice A es.length c]] w fun e w' => e = .returned (.int .i64 (connCode qg q)) ∧ Below w.heap.size w w' := by
  have c0 := Lib.hid fun W (hW : Below w.heap.size w W) => graphCode_b n A c es W qg true hq hl (hr.below hW)
  have c1 : Hid (qg = true → ∀ W (hW : Below w.heap.size w W), Calls Try.prog 43 #[.agg #[.int .i64 n, .slice A es.length c]] W fun e w' => e = .returned (.bool q) ∧ Below W.heap.size W w') := by
    intro h W hW
    have hg := hq.out.trans h
    have hn := isGraphB_n hg
    have hln := isGraphB_in hg
    have h9 : (n.toNat : Int) = n := by omega
    have := isConnected_b n.toNat A c es W q hc (by omega) (by have := isGraphB_len hg; omega) hln (hr.below hW)
    rwa [h9] at this
  clear hq hc hl hr
  generalize es.length = L at *
  have B0 : Below w.heap.size w (w.alloc (.cells #[.int .i64 n, .slice A L c] 32)) := by (repeat' (first | (with_reducible exact Below.refl _ _) | (with_reducible assumption) | (with_reducible refine Below.alloc ?_ ?_ _) | (with_reducible refine Below.drew ?_) | (with_reducible refine below_drewN ?_ _) | (with_reducible refine Below.setCell ?_ ?_ _) | (with_reducible refine Below.trans ?_ (Below.mono (by assumption) ?_)) | (first | omega | (simp only [World.size_alloc, World.size_setCell, World.size_drew]; omega) | (simp; omega) | (simp; done))))
  go_enter Try.func46, Try.ntmps46
  go_wp2_with fail
  refine (c0.out _ B0).mono ?_
  rintro e w1 ⟨rfl, hb1⟩
  have B1 := B0.trans (hb1.mono B0.size)
  have K1 := (Blk.new w 32 #[.int .i64 n, .slice A L c]).below hb1 (by (first | omega | (simp only [World.size_alloc, World.size_setCell, World.size_drew]; omega) | (simp; omega) | (simp; done)))
  have k0 := K1.cellAt 0 _ rfl
  have k1 := K1.cellAt 1 _ rfl
  have hwl := K1.lt
  clear hb1
  cases qg
  · go_wp2
    go_ret
    exact ⟨rfl, B1⟩
  · have c2 := c1.out rfl _ B1
    cases q
    all_goals
      go_wp2_with fail
      refine c2.mono ?_
      rintro e w2 ⟨rfl, hb2⟩
      go_wp2
      go_ret
      exact ⟨rfl, B1.trans (hb2.mono B1.size)⟩
end Go.Proofs.Ytigdfcigoejjjaa
