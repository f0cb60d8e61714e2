/- How many colours edges, or vertices and edges, want at least. No statement of the program is proved here. -/
import Derived.Test.YtkpnplldnihalaaLp8
import Derived.Test.YtkpnplldnihalaaTo1
import Derived.Test.YtkpnplldnihalaaCw
import Derived.Test.YtkpnplldnihalaaCi4
import Derived.Test.YtkpnplldnihalaaSt1
namespace Go.Proofs.Ytkpnplldnihalaa
open Go.RowKit
set_option linter.unusedSimpArgs false
set_option linter.unusedVariables false
set_option maxRecDepth 20000

theorem graph_three {n : Int} {es : List (Int × Int)} (h : isGraphB n es = true) : ∃ a b c : Nat, b < a ∧ c < b ∧ a < es.length ∧ onB (es.getD a (0, 0)) 0 = true ∧ onB (es.getD b (0, 0)) 0 = true ∧ onB (es.getD c (0, 0)) 0 = true := by
  have h2 := h
  simp only [isGraphB, Bool.and_eq_true] at h2
  have h3 := areEdgesB_in h2.1
  have hn := isGraphB_n h
  have hd : (degs n.toNat es).getD 0 0 = 3 := by
    have hall := h2.2
    have key : ∀ xs : List Int, (xs.all fun k => decide (k = 3)) = true → 0 < xs.length → xs.getD 0 0 = 3 := fun xs hx hl => by
      rw [List.all_eq_true] at hx
      match xs, hl with
      | x :: xs, _ => simpa using hx x (by simp)
    refine key _ ?_ (by rw [degs_len]; omega)
    exact hall.2.2
  exact three_at (v := 0) h3.2.2.2.1 h3.2.2.2.2 (by omega) hd
theorem numK_ge {are : Nat → Nat → Bool} {T m : Nat} (hT : 1 ≤ T) (h : ∀ k : Int, k < m → fillO are (fun x y => decide (x = y)) (candF k) T [] = none) : m ≤ numK are T := by
  obtain ⟨_, h2, _⟩ := numK_spec (are := are) hT
  rcases Nat.lt_or_ge (numK are T) m with hlt | hge
  · unfold okK at h2
    rw [h (numK are T : Int) (by omega)] at h2
    cases h2
  · exact hge
theorem total_four {N : Nat} {es : List (Int × Int)} (hg : isGraphB N es = true) : 4 ≤ numK (totalAre N es) (N + es.length) := by
  obtain ⟨a, b, c, h1, h2, h3, h4, h5, h6⟩ := graph_three hg
  have hn := isGraphB_n hg
  refine numK_ge (by omega) fun k hk => ?_
  have nn : ∀ x y : Nat, onB (es.getD x (0, 0)) 0 = true → onB (es.getD y (0, 0)) 0 = true → totalAre N es (N + x) (N + y) = true := fun x y hx hy => by
    unfold totalAre
    rw [if_neg (by omega), if_neg (by omega), show N + x - N = x by omega, show N + y - N = y by omega]
    exact near_of hx hy
  have nv : ∀ x : Nat, onB (es.getD x (0, 0)) 0 = true → totalAre N es (N + x) 0 = true := fun x hx => by
    unfold totalAre
    rw [if_neg (by omega), if_pos (by omega), show N + x - N = x by omega]
    exact hx
  exact fillO_four (a := N + a) (b := N + b) (c := N + c) (d := 0) (by omega) (by omega) (by omega) (by omega) (nn a b h4 h5) (nn a c h4 h6) (nn b c h5 h6) (nv a h4) (nv b h5) (nv c h6) (by omega)
theorem close_three {n : Int} {es : List (Int × Int)} (hg : isGraphB n es = true) : 3 ≤ numK (closeAre es) es.length := by
  obtain ⟨a, b, c, h1, h2, h3, h4, h5, h6⟩ := graph_three hg
  refine numK_ge (by omega) fun k hk => ?_
  have nn : ∀ x y : Nat, onB (es.getD x (0, 0)) 0 = true → onB (es.getD y (0, 0)) 0 = true → closeAre es x y = true := fun x y hx hy => by
    unfold closeAre closeB
    rw [near_of hx hy]; rfl
  exact fillO_three (a := a) (b := b) (c := c) h1 h2 h3 (nn a b h4 h5) (nn a c h4 h6) (nn b c h5 h6) (by omega)
end Go.Proofs.Ytkpnplldnihalaa
