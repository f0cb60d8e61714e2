/- Edges in order: the plain law. No statement of the program is proved here. -/
import Derived.Test.YtjgmoffkecnmcaaGreatGr
namespace Go.Proofs.YtjgmoffkecnmcaaGreat
open Go.RowKit
set_option linter.unusedSimpArgs false
set_option linter.unusedVariables false
set_option maxRecDepth 20000

/-- The lesser end first. -/
def mmE (e : Int × Int) : Int × Int := (min e.1 e.2, max e.1 e.2)
/-- Not behind. -/
def leE (x y : Int × Int) : Bool := !decide (cmpE y x < 0)
theorem cmpE_neg (x y : Int × Int) : cmpE x y < 0 ↔ (x.1 < y.1 ∨ (x.1 = y.1 ∧ x.2 < y.2)) := by
  unfold cmpE cmpI
  split <;> (repeat' split) <;> omega
theorem leE_iff (x y : Int × Int) : leE x y = true ↔ (x.1 < y.1 ∨ (x.1 = y.1 ∧ x.2 ≤ y.2)) := by
  unfold leE
  rw [Bool.not_eq_true', decide_eq_false_iff_not, cmpE_neg]
  omega
theorem leE_trans (a b c : Int × Int) (h1 : leE a b = true) (h2 : leE b c = true) : leE a c = true := by
  rw [leE_iff] at *; omega
theorem leE_total (a b : Int × Int) : (leE a b || leE b a) = true := by
  rw [Bool.or_eq_true, leE_iff, leE_iff]; omega
theorem leE_anti (a b : Int × Int) (h1 : leE a b = true) (h2 : leE b a = true) : a = b := by
  rw [leE_iff] at *
  obtain ⟨a1, a2⟩ := a; obtain ⟨b1, b2⟩ := b
  simp only [Prod.mk.injEq]
  dsimp only at h1 h2
  omega
/-- The edges in order. -/
def sortE (es : List (Int × Int)) : List (Int × Int) := es.mergeSort leE
/-- The edges, the lesser ends first, in order. -/
def madeE (es : List (Int × Int)) : List (Int × Int) := sortE (es.map mmE)
theorem sortE_len (es : List (Int × Int)) : (sortE es).length = es.length := by simp [sortE]
theorem madeE_len (es : List (Int × Int)) : (madeE es).length = es.length := by simp [madeE, sortE_len]
theorem sortE_perm (es : List (Int × Int)) : (sortE es).Perm es := List.mergeSort_perm _ _
theorem sortE_sorted (es : List (Int × Int)) : (sortE es).Pairwise (fun a b => leE a b = true) := List.pairwise_mergeSort leE_trans leE_total es
theorem sortE_unique {es ys : List (Int × Int)} (hp : ys.Perm es) (hs : ys.Pairwise (fun a b => leE a b = true)) : ys = sortE es :=
  List.Perm.eq_of_pairwise (le := fun a b => leE a b = true) (fun a b _ _ h1 h2 => leE_anti a b h1 h2) hs (sortE_sorted es) (hp.trans (sortE_perm es).symm)
theorem sortE_congr {es ys : List (Int × Int)} (hp : ys.Perm es) : sortE ys = sortE es := sortE_unique ((sortE_perm ys).trans hp) (sortE_sorted ys)
theorem madeE_congr {es ys : List (Int × Int)} (hp : (ys.map mmE).Perm (es.map mmE)) : madeE ys = madeE es := sortE_congr hp

/-- The list with e at place k. -/
def insE (out : List (Int × Int)) (k : Nat) (e : Int × Int) : List (Int × Int) := out.take k ++ e :: out.drop k
theorem insE_len {out : List (Int × Int)} {k : Nat} (h : k ≤ out.length) (e : Int × Int) : (insE out k e).length = out.length + 1 := by
  simp [insE]; omega
theorem insE_end (out : List (Int × Int)) (e : Int × Int) : insE out out.length e = out ++ [e] := by simp [insE]
theorem insE_perm (out : List (Int × Int)) (k : Nat) (e : Int × Int) : (insE out k e).Perm (out ++ [e]) := by
  unfold insE
  have h1 : (out.take k ++ e :: out.drop k).Perm (e :: (out.take k ++ out.drop k)) := List.perm_middle
  rw [List.take_append_drop] at h1
  exact h1.trans (List.perm_append_singleton e out).symm
theorem insE_getD {out : List (Int × Int)} {k : Nat} (h : k ≤ out.length) (e : Int × Int) (j : Nat) : (insE out k e).getD j (0, 0) = if j < k then out.getD j (0, 0) else if j = k then e else out.getD (j - 1) (0, 0) := by
  unfold insE
  by_cases h1 : j < k
  · rw [if_pos h1]
    simp only [List.getD]
    rw [List.getElem?_append_left (by simp; omega), List.getElem?_take_of_lt h1]
  · rw [if_neg h1]
    simp only [List.getD]
    rw [List.getElem?_append_right (by simp; omega)]
    have hl : (out.take k).length = k := by simp; omega
    rw [hl]
    by_cases h2 : j = k
    · subst h2; simp
    · rw [if_neg h2]
      obtain ⟨d, rfl⟩ : ∃ d, j = k + d + 1 := ⟨j - k - 1, by omega⟩
      rw [show k + d + 1 - k = d + 1 by omega, List.getElem?_cons_succ, List.getElem?_drop, show k + d + 1 - 1 = k + d by omega]
theorem set_getD {xs : List (Int × Int)} {i : Nat} {v : Int × Int} (hi : i < xs.length) (j : Nat) : (xs.set i v).getD j (0, 0) = if j = i then v else xs.getD j (0, 0) := by
  by_cases h : j = i
  · subst h; rw [if_pos rfl]; simp [List.getD, hi]
  · rw [if_neg h]; simp [List.getD, List.getElem?_set_ne (Ne.symm h)]
theorem ext_getD {xs ys : List (Int × Int)} (hl : xs.length = ys.length) (h : ∀ j, j < xs.length → xs.getD j (0, 0) = ys.getD j (0, 0)) : xs = ys := by
  apply List.ext_getElem hl
  intro i h1 h2
  have := h i h1
  simpa [List.getD, h1, h2] using this
/-- One place further to the front. -/
theorem insE_step {out : List (Int × Int)} {k : Nat} (h : k + 1 ≤ out.length) (e : Int × Int) : (insE out (k + 1) e).set (k + 1) (out.getD k (0, 0)) = insE out k (out.getD k (0, 0)) := by
  refine ext_getD (by rw [List.length_set, insE_len h, insE_len (by omega)]) fun j hj => ?_
  rw [set_getD (by rw [insE_len h]; omega), insE_getD h, insE_getD (by omega)]
  by_cases h1 : j = k + 1
  · subst h1; rw [if_pos rfl, if_neg (by omega), if_neg (by omega)]; rfl
  · rw [if_neg h1]
    by_cases h2 : j < k
    · rw [if_pos (by omega), if_pos h2]
    · rw [if_neg h2]
      by_cases h3 : j = k
      · subst h3; rw [if_pos (by omega), if_pos rfl]
      · rw [if_neg (by omega), if_neg h1, if_neg h3]
theorem insE_set {out : List (Int × Int)} {k : Nat} (h : k ≤ out.length) (e e' : Int × Int) : (insE out k e).set k e' = insE out k e' := by
  refine ext_getD (by rw [List.length_set, insE_len h, insE_len h]) fun j hj => ?_
  rw [set_getD (by rw [insE_len h]; omega), insE_getD h, insE_getD h]
  by_cases h1 : j = k
  · subst h1; rw [if_pos rfl, if_neg (by omega), if_pos rfl]
  · rw [if_neg h1, if_neg h1, if_neg h1]
theorem insE_sorted {out : List (Int × Int)} {k : Nat} {e : Int × Int} (hk : k ≤ out.length) (hs : out.Pairwise (fun a b => leE a b = true)) (h1 : 0 < k → leE (out.getD (k - 1) (0, 0)) e = true) (h2 : ∀ i, k ≤ i → i < out.length → leE e (out.getD i (0, 0)) = true) :
    (insE out k e).Pairwise (fun a b => leE a b = true) := by
  have hs2 := List.pairwise_iff_getElem.1 hs
  have key : ∀ i j, i < j → j < out.length → leE (out.getD i (0, 0)) (out.getD j (0, 0)) = true := fun i j hij hj => by
    have := hs2 i j (by omega) hj hij
    simpa [List.getD, hj, show i < out.length by omega] using this
  have keyd : ∀ i, i < k → leE (out.getD i (0, 0)) e = true := fun i hi => by
    have h3 := h1 (by omega)
    by_cases h4 : i = k - 1
    · subst h4; exact h3
    · exact leE_trans _ _ _ (key i (k - 1) (by omega) (by omega)) h3
  rw [List.pairwise_iff_getElem]
  intro i j hi hj hij
  rw [insE_len hk] at hi hj
  have gi : (insE out k e)[i] = (insE out k e).getD i (0, 0) := by simp [List.getD, insE_len hk, hi]
  have gj : (insE out k e)[j] = (insE out k e).getD j (0, 0) := by simp [List.getD, insE_len hk, hj]
  rw [gi, gj, insE_getD hk, insE_getD hk]
  by_cases hik : i < k
  · rw [if_pos hik]
    by_cases hjk : j < k
    · rw [if_pos hjk]; exact key i j hij (by omega)
    · rw [if_neg hjk]
      by_cases e2 : j = k
      · rw [if_pos e2]; exact keyd i hik
      · rw [if_neg e2]; exact key i (j - 1) (by omega) (by omega)
  · rw [if_neg hik]
    by_cases e1 : i = k
    · rw [if_pos e1, if_neg (show ¬ j < k by omega), if_neg (show ¬ j = k by omega)]; exact h2 (j - 1) (by omega) (by omega)
    · rw [if_neg e1, if_neg (show ¬ j < k by omega), if_neg (show ¬ j = k by omega)]; exact key (i - 1) (j - 1) (by omega) (by omega)
end Go.Proofs.YtjgmoffkecnmcaaGreat
