/- FlowerGraph of impl and of the reference, at every number. No statement of the program is proved here. -/
import Derived.Test.YtblidpodbpoaeaaFl3
namespace Go.Proofs.Ytblidpodbpoaeaa
open Go.RowKit
set_option linter.unusedSimpArgs false
set_option linter.unusedVariables false
set_option maxRecDepth 20000

def flowN (k : Int) : Int := if k = 3 then 12 else if k = 5 then 20 else 0
def flowL (k : Int) : List (Int × Int) := if k = 3 then madeE (flowB 3 6) else if k = 5 then madeE (flowB 5 10) else []
def flowC (k : Int) : Int := if k = 3 then 0 else if k = 5 then 0 else 2
theorem flowL_len (k : Int) : (flowL k).length ≤ 30 := by
  unfold flowL
  split
  · rw [madeE_len, flowB_len]; decide
  · split
    · rw [madeE_len, flowB_len]; decide
    · simp
set_option maxHeartbeats 2000000 in
theorem specFlower_no (k : Int) (w : World) (h3 : ¬ k = 3) (h5 : ¬ k = 5) :
    Calls Try.prog 10 #[.int .i64 k] w fun e w' => RetG w' w.heap.size e 0 [] 2 ∧ Below w.heap.size w w' := by
  have g1 : (k != 3) = true := by simpa using h3
  have g2 : (k != 5) = true := by simpa using h5
  have hB : Blk (w.alloc (.cells #[.int .i64 0, .slice none 0 0] 24)) w.heap.size 24 #[.int .i64 0, .slice none 0 0] := Blk.new w _ _
  clear h3 h5
  go_enter Try.func10, Try.ntmps10
  go_wp2
  refine ret_cell_tmp Try.results10 Try.underlying24 rfl (by kernel_rfl) rfl hB rfl rfl ⟨⟨none, 0, rfl, FrE.nil⟩, by (repeat' (first | (with_reducible exact Below.refl _ _) | (with_reducible assumption) | (with_reducible refine Below.alloc ?_ ?_ _) | (with_reducible refine Below.drew ?_) | (with_reducible refine below_drewN ?_ _) | (with_reducible refine Below.setCell ?_ ?_ _) | (with_reducible refine Below.trans ?_ (Below.mono (by assumption) ?_)) | (first | omega | (simp only [World.size_alloc, World.size_setCell, World.size_drew]; omega) | (simp; omega) | (simp; done))))⟩
theorem specFlower_b (k : Int) (w : World) :
    Calls Try.prog 10 #[.int .i64 k] w fun e w' => RetG w' w.heap.size e (flowN k) (flowL k) (flowC k) ∧ Below w.heap.size w w' := by
  by_cases h3 : k = 3
  · subst h3; exact specFlower_3 w
  · by_cases h5 : k = 5
    · subst h5; exact specFlower_5 w
    · have h := specFlower_no k w h3 h5
      rw [show flowN k = 0 by simp [flowN, h3, h5], show flowL k = [] by simp [flowL, h3, h5], show flowC k = 2 by simp [flowC, h3, h5]]
      exact h
set_option maxHeartbeats 2000000 in
theorem implFlower_no (k : Int) (w : World) (h3 : ¬ k = 3) (h5 : ¬ k = 5) :
    Calls Try.prog 11 #[.int .i64 k] w fun e w' => RetG w' w.heap.size e 0 [] 2 ∧ Below w.heap.size w w' := by
  have g1 : (k != 3) = true := by simpa using h3
  have g2 : (k != 5) = true := by simpa using h5
  have hB : Blk (w.alloc (.cells #[.int .i64 0, .slice none 0 0] 24)) w.heap.size 24 #[.int .i64 0, .slice none 0 0] := Blk.new w _ _
  clear h3 h5
  go_enter Try.func11, Try.ntmps11
  go_wp2
  refine ret_cell_tmp Try.results11 Try.underlying24 rfl (by kernel_rfl) rfl hB rfl rfl ⟨⟨none, 0, rfl, FrE.nil⟩, by (repeat' (first | (with_reducible exact Below.refl _ _) | (with_reducible assumption) | (with_reducible refine Below.alloc ?_ ?_ _) | (with_reducible refine Below.drew ?_) | (with_reducible refine below_drewN ?_ _) | (with_reducible refine Below.setCell ?_ ?_ _) | (with_reducible refine Below.trans ?_ (Below.mono (by assumption) ?_)) | (first | omega | (simp only [World.size_alloc, World.size_setCell, World.size_drew]; omega) | (simp; omega) | (simp; done))))⟩
theorem implFlower_b (k : Int) (w : World) :
    Calls Try.prog 11 #[.int .i64 k] w fun e w' => RetG w' w.heap.size e (flowN k) (flowL k) (flowC k) ∧ Below w.heap.size w w' := by
  by_cases h3 : k = 3
  · subst h3; exact implFlower_3 w
  · by_cases h5 : k = 5
    · subst h5; exact implFlower_5 w
    · have h := implFlower_no k w h3 h5
      rw [show flowN k = 0 by simp [flowN, h3, h5], show flowL k = [] by simp [flowL, h3, h5], show flowC k = 2 by simp [flowC, h3, h5]]
      exact h
end Go.Proofs.Ytblidpodbpoaeaa
