/- Lists that a call gathers by append: allEdges; ContainsFunc over them: isClose; AreClose. -/
import Derived.Test.YtigdfcigoejjjaaNe1
namespace Go.Proofs.Ytigdfcigoejjjaa
open Go.RowKit
set_option linter.unusedSimpArgs false
set_option linter.unusedVariables false

/-- The value of a slice that is owned, written out. -/
theorem own_form {w : World} {base : Nat} {e : TypeId} {size n : Nat} {v : Value} {xs : List Value} (h : w.ownsRow base e size v n xs) : ∃ A c, v = .slice A n c := by
  rcases h.2 with ⟨h1, h2⟩ | ⟨g, cap, cur, hv, _⟩
  · exact ⟨none, 0, by rw [h1, h2]⟩
  · exact ⟨_, _, hv⟩
theorem own_grown_below {B : Nat} {w w1 w2 : World} {e : TypeId} {size n : Nat} {v : Value} {xs : List Value} (hb : Below B w w1) (hown : w1.ownsRow B e size v n xs) (hg : w1.grownBy w2 v.ownBlock) (hB : B ≤ w1.heap.size) : Below B w w2 :=
  hb.grown hg hB fun k hk => by
    rcases hown.2 with ⟨h1, _⟩ | ⟨g, cap, cur, hv, hge, _⟩
    · rw [h1] at hk; simp [Value.ownBlock] at hk
    · rw [hv] at hk; simp [Value.ownBlock] at hk; omega
theorem own_snocI {w : World} {base : Nat} {e : TypeId} {v : Value} {n : Nat} {xs ys : List Int} {z : Int} (h : w.ownsRow base e 1 v (n + 1) (cI xs ++ [.int .i64 z])) (he : xs ++ [z] = ys) : w.ownsRow base e 1 v (n + 1) (cI ys) := by
  rw [← he]; simpa [cI] using h
theorem own_keepN {w w' : World} {base B : Nat} {e : TypeId} {size n : Nat} {v : Value} {xs : List Value} (h : w.ownsRow base e size v n xs) (hb : Below w.heap.size w w') : w'.ownsRow base e size v n xs := own_below h hb

/-- The numbers from 0 on. -/
def idx (n : Nat) : List Int := (List.range n).map fun (i : Nat) => (i : Int)
theorem idx_len (n : Nat) : (idx n).length = n := by simp [idx]
theorem idx_snoc (n : Nat) : idx n ++ [(n : Int)] = idx (n + 1) := by simp [idx, List.range_succ]
theorem idx_getD (n j : Nat) (h : j < n) : (idx n).getD j 0 = (j : Int) := by simp [idx, List.getD, h]

end Go.Proofs.Ytigdfcigoejjjaa
