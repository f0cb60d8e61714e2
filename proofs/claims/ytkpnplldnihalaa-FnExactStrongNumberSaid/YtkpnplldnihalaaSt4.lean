/- The reference's IsStrong. -/
import Derived.Test.YtkpnplldnihalaaSt3
namespace Go.Proofs.Ytkpnplldnihalaa
open Go.RowKit
set_option linter.unusedSimpArgs false
set_option linter.unusedVariables false
set_option maxRecDepth 20000

theorem properB_congr {m : Nat} {xs : List Int} {k : Int} {are are' : Nat → Nat → Bool} {bad : Int → Int → Bool} (h : ∀ i j, j < i → i < m → are i j = are' i j) : properB m xs k are bad = properB m xs k are' bad := by
  have hn : ∀ i, i < m → nbr are i = nbr are' i := fun i hi => by
    unfold nbr nbrTo
    congr 1
    refine List.filter_congr fun j hj => h i j (by simpa using hj) hi
  have key : ∀ i, i < m → properAt xs k are bad i = properAt xs k are' bad i := fun i hi => by unfold properAt; rw [hn i hi]
  rw [Bool.eq_iff_iff, properB, properB, List.all_eq_true, List.all_eq_true]
  constructor
  · intro h1 i hi; rw [← key i (by simpa using hi)]; exact h1 i hi
  · intro h1 i hi; rw [key i (by simpa using hi)]; exact h1 i hi
theorem rowsAt_are (rel : Nat → Nat → Bool) (m i j : Nat) (h : j < i) (hi : i < m) : decide (rowsAt rel m 0 i j = 1) = rel i j := by
  have a : max i j = i := by omega
  have b : min i j = j := by omega
  cases hr : rel i j <;> simp [rowsAt, metB, a, b, hr, show ¬ i = j by omega, hi]

end Go.Proofs.Ytkpnplldnihalaa
