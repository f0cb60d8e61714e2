/- The laws' glue for a second graph. No statement of the program is proved here. -/
import Derived.Test.YtjgmoffkecnmcaaGreatGlue
import Derived.Test.YtjgmoffkecnmcaaGreatGr
namespace Go.Proofs.YtjgmoffkecnmcaaGreat
open Go.RowKit
set_option linter.unusedSimpArgs false
set_option linter.unusedVariables false
set_option maxRecDepth 20000

theorem szEdgeS2_any (A : Option Addr) (m c : Nat) (k : Int) (w : World) (hk : 0 ≤ k ∧ k ≤ 1048576) (hm : m ≤ 9223372036854775807) (r : Int) (hr : Hid ((if (m : Int) ≤ k then k - m else -1) = r)) :
    Calls Tryz.prog 14 #[.slice A m c, .int .i64 k] w fun e w' => e = .returned (.int .i64 r) ∧ w = w' := by
  obtain ⟨s, Hs⟩ : ∃ s : Int, Hid (k - (m : Int) = s) := ⟨_, rfl⟩
  have p1 : wrap64 (k - (m : Int)) = s := by rw [← Hs.out]; exact wrap64_small (by omega) (by omega)
  have hr2 := hr.out
  by_cases h : (m : Int) ≤ k
  · have h2 : ¬ (s < 0) := by have := Hs.out; omega
    rw [if_pos h, Hs.out] at hr2
    subst hr2
    clear hr h hk hm
    go_enter Tryz.func14, Tryz.ntmps14
    go_wp2
    go_ret
    exact ⟨rfl, rfl⟩
  · have h2 : s < 0 := by have := Hs.out; omega
    rw [if_neg h] at hr2
    subst hr2
    clear hr h hk hm
    go_enter Tryz.func14, Tryz.ntmps14
    go_wp2
    go_ret
    exact ⟨rfl, rfl⟩
theorem szGraph2_any (n : Int) (A : Option Addr) (m c : Nat) (k : Int) (w : World) (hk : 0 ≤ k ∧ k ≤ 1048576) (hm : m ≤ 9223372036854775807) (r : Int) (hr : Hid ((if (m : Int) ≤ k then k - m else -1) = r)) :
    Calls Tryz.prog 5 #[.agg #[.int .i64 n, .slice A m c], .int .i64 k] w fun e w' => e = .returned (.int .i64 r) ∧ Below w.heap.size w w' := by
  have hc := Lib.hid fun W => szEdgeS2_any A m c k W hk hm r hr
  by_cases h : r < 0
  · have h1 : r = -1 := by have := hr.out; split at this <;> omega
    clear hr hk hm
    go_enter Tryz.func5, Tryz.ntmps5
    go_wp2_with fail
    refine (hc.out _).mono ?_
    rintro e w1 ⟨rfl, rfl⟩
    go_wp2
    go_ret
    exact ⟨by rw [h1]; rfl, by (repeat' (first | (with_reducible exact Below.refl _ _) | (with_reducible assumption) | (with_reducible refine Below.alloc ?_ ?_ _) | (with_reducible refine Below.drew ?_) | (with_reducible refine below_drewN ?_ _) | (with_reducible refine Below.setCell ?_ ?_ _) | (with_reducible refine Below.trans ?_ (Below.mono (by assumption) ?_)) | (first | omega | (simp only [World.size_alloc, World.size_setCell, World.size_drew]; omega) | (simp; omega) | (simp; done))))⟩
  · clear hr hk hm
    go_enter Tryz.func5, Tryz.ntmps5
    go_wp2_with fail
    refine (hc.out _).mono ?_
    rintro e w1 ⟨rfl, rfl⟩
    go_wp2
    go_ret
    exact ⟨rfl, by (repeat' (first | (with_reducible exact Below.refl _ _) | (with_reducible assumption) | (with_reducible refine Below.alloc ?_ ?_ _) | (with_reducible refine Below.drew ?_) | (with_reducible refine below_drewN ?_ _) | (with_reducible refine Below.setCell ?_ ?_ _) | (with_reducible refine Below.trans ?_ (Below.mono (by assumption) ?_)) | (first | omega | (simp only [World.size_alloc, World.size_setCell, World.size_drew]; omega) | (simp; omega) | (simp; done))))⟩
end Go.Proofs.YtjgmoffkecnmcaaGreat
