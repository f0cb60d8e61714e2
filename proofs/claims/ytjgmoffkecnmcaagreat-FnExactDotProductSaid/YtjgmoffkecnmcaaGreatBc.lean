/- bothCode. No statement of the program is proved here. -/
import Derived.Test.YtjgmoffkecnmcaaGreatGo1
import Derived.Test.YtjgmoffkecnmcaaGreatIs1
namespace Go.Proofs.YtjgmoffkecnmcaaGreat
open Go.RowKit
set_option linter.unusedSimpArgs false
set_option linter.unusedVariables false
set_option maxRecDepth 20000

/-- The code for two graphs. -/
def bcode (q1 q2 q3 : Bool) : Int := if (q1 && q2) = false then 1 else if q3 = false then 2 else 0
set_option maxHeartbeats 2000000 in
theorem bothCode_b (n : Int) (A : Option Addr) (c : Nat) (es : List (Int × Int)) (m : Int) (B : Option Addr) (d : Nat) (hs : List (Int × Int)) (g : Nat) (lb : Array Value) (w : World) (q1 q2 q3 : Bool) (eg : Ent g) (h1 : Hid (isGraphB n es = q1)) (h2 : Hid (isGraphB m hs = q2)) (hl : es.length ≤ 1048576) (hl2 : hs.length ≤ 1048576) (hr : RdE w A es) (hr2 : RdE w B hs)
    (hp : q1 = true → q2 = true → ∀ W, Below w.heap.size w W → Calls Tryz.prog g lb W fun e w' => e = .returned (.bool q3) ∧ Below W.heap.size W w') :
    Calls Tryz.prog 35 #[.agg #[.int .i64 n, .slice A es.length c], .agg #[.int .i64 m, .slice B hs.length d], .func (.func g) #[] lb] w fun e w' => e = .returned (.int .i64 (bcode q1 q2 q3)) ∧ Below w.heap.size w w' := by
  have eg0 := eg
  unfold Ent at eg0
  clear eg
  have c1 := Lib.hid fun W (hW : Below w.heap.size w W) => isGraph_b n A c es W q1 h1 hl (hr.below hW)
  have c2 := Lib.hid fun W (hW : Below w.heap.size w W) => isGraph_b m B d hs W q2 h2 hl2 (hr2.below hW)
  have Hp := Lib.hid hp
  clear h1 h2 hr hr2 hp
  generalize es.length = L at *
  generalize hs.length = M at *
  have hB1 : Below w.heap.size w ((w.alloc (.cells #[.int .i64 n, .slice A L c] 28)).alloc (.cells #[.int .i64 m, .slice B M d] 28)) := by (repeat' (first | (with_reducible exact Below.refl _ _) | (with_reducible assumption) | (with_reducible refine Below.alloc ?_ ?_ _) | (with_reducible refine Below.drew ?_) | (with_reducible refine below_drewN ?_ _) | (with_reducible refine Below.setCell ?_ ?_ _) | (with_reducible refine Below.trans ?_ (Below.mono (by assumption) ?_)) | (first | omega | (simp only [World.size_alloc, World.size_setCell, World.size_drew]; omega) | (simp; omega) | (simp; done))))
  cases q1
  · go_enter Tryz.func35, Tryz.ntmps35
    go_wp2_with fail
    refine (c1.out _ hB1).mono ?_
    rintro e w1 ⟨rfl, hb1⟩
    go_wp2
    go_ret
    exact ⟨rfl, hB1.trans (hb1.mono (by simp; omega))⟩
  · go_enter Tryz.func35, Tryz.ntmps35
    go_wp2_with fail
    refine (c1.out _ hB1).mono ?_
    rintro e w1 ⟨rfl, hb1⟩
    have K := (Blk.new' (n := w.heap.size + 1) (w.alloc (.cells #[.int .i64 n, .slice A L c] 28)) (t := 28) (cs := #[.int .i64 m, .slice B M d]) (by simp)).below hb1 (by simp)
    have k0 := K.cellAt 0 _ rfl
    have k1 := K.cellAt 1 _ rfl
    have Hb1 : Hid (Below w.heap.size w w1) := hB1.trans (hb1.mono (by simp; omega))
    have s1 := Hb1.out.size
    clear K hb1 hB1
    go_wp2_with fail
    refine (c2.out _ Hb1.out).mono ?_
    rintro e w2 ⟨rfl, hb2⟩
    have Hb2 : Hid (Below w.heap.size w w2) := Hb1.out.trans (hb2.mono s1)
    have s2 := Hb2.out.size
    clear hb2 k0 k1
    cases q2
    · go_wp2
      go_ret
      exact ⟨rfl, Hb2.out⟩
    · go_wp2_with fail
      refine (Hp.out (by first | rfl | trivial) (by first | rfl | trivial) w2 Hb2.out).mono ?_
      rintro e w3 ⟨rfl, hb3⟩
      have Hb3 : Hid (Below w.heap.size w w3) := Hb2.out.trans (hb3.mono s2)
      clear hb3
      cases q3
      · go_wp2
        go_ret
        exact ⟨rfl, Hb3.out⟩
      · go_wp2
        go_ret
        exact ⟨rfl, Hb3.out⟩
end Go.Proofs.YtjgmoffkecnmcaaGreat
