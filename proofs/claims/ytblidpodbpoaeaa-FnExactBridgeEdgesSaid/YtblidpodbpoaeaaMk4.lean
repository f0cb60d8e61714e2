/- Marks in a graph that was returned: what was made behind it stays. No statement of the program is proved here. -/
import Derived.Test.YtblidpodbpoaeaaMk3
import Derived.Test.YtblidpodbpoaeaaGm2
namespace Go.Proofs.Ytblidpodbpoaeaa
open Go.RowKit
set_option linter.unusedSimpArgs false
set_option linter.unusedVariables false
set_option maxRecDepth 20000

/-- The edges' memory lies below T. -/
def UpE (T : Nat) (A : Option Addr) (es : List (Int × Int)) : Prop := es = [] ∨ ∃ b off, A = some ⟨b, off, none⟩ ∧ b < T
theorem FrE.up {w : World} {n0 : Nat} {A : Option Addr} {es : List (Int × Int)} (h : FrE w n0 A es) : UpE w.heap.size A es := by
  rcases h with h | ⟨b, off, e, _, hb, _⟩
  · exact .inl h
  · exact .inr ⟨b, off, e, hb⟩
theorem markG_up (m : Int) (A : Option Addr) (n c k n0 T : Nat) (es : List (Int × Int)) (w : World) (hn : es.length = n) (hl : n ≤ 100000000) (hk : k ≤ 1000000000000) (hn0 : n0 ≤ w.heap.size) (hr : FrE w n0 A es) (hT : UpE T A es) :
    Calls Try.prog 13 #[.agg #[.int .i64 m, .slice A n c], .int .i64 k] w fun e w' => e = .returned (.int .i64 ((k + 2 * n : Nat) : Int)) ∧ (∀ g, T ≤ g → g < w.heap.size → w'.heap[g]? = w.heap[g]?) ∧ Below n0 w w' ∧ FrE w' n0 A (iotaE k n) := by
  rcases hT with h0 | ⟨b, off, e1, h1⟩
  · subst h0
    obtain rfl : n = 0 := hn.symm
    refine (markG_b m A 0 c k w.heap.size [] w rfl hl hk (Nat.le_refl _) (.inl rfl)).mono ?_
    rintro e w' ⟨he, ho, hb2, hF⟩
    exact ⟨he, fun g _ hg => hb2.block g hg, hb2.mono hn0, .inl rfl⟩
  · refine (markG_b m A n c k n0 es w hn hl hk hn0 hr).mono ?_
    rintro e w' ⟨he, ho, hb2, hF⟩
    refine ⟨he, fun g hg hg2 => ho.block g hg2 fun o e2 => ?_, hb2, hF⟩
    rw [e1] at e2
    injection e2 with e2
    injection e2 with e2
    omega
end Go.Proofs.Ytblidpodbpoaeaa
