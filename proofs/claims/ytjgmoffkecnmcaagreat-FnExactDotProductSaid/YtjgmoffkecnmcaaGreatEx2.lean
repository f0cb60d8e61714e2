/- Slices that are copied: slices.Clone, l01Own; a store into a slice that is owned. -/
import Derived.Test.YtjgmoffkecnmcaaGreatCi2
import Derived.Test.YtjgmoffkecnmcaaGreatZm
import Derived.Test.YtjgmoffkecnmcaaGreatEx1
namespace Go.Proofs.YtjgmoffkecnmcaaGreat
open Go.RowKit
set_option linter.unusedSimpArgs false
set_option linter.unusedVariables false
set_option maxRecDepth 20000

theorem own_someI {w : World} {base : Nat} {e : TypeId} {size n : Nat} {v : Value} {xs : List Value} (h : w.ownsRow base e size v n xs) (hn : 0 < n) : ∃ g c, v = .slice (some ⟨g, 0, none⟩) n c ∧ base ≤ g ∧ g < w.heap.size := by
  rcases h.2 with ⟨_, h2⟩ | ⟨g, cap, cur, hv, hge, hh, _⟩
  · omega
  · exact ⟨g, cap, hv, hge, Blk.lt (t := e) (cs := cur) hh⟩
theorem own_frozen {w : World} {base : Nat} {e : TypeId} {size n c g : Nat} {xs : List Value} (h : w.ownsRow base e size (.slice (some ⟨g, 0, none⟩) n c) n xs) (i : Nat) : w.frozen? ⟨g, i, none⟩ = false := by
  rcases h.2 with ⟨h1, _⟩ | ⟨g', cap, cur, hv, hge, hh, _⟩
  · cases h1
  · injection hv with h1 _ _
    injection h1 with h1
    injection h1 with h1 _ _
    subst h1
    exact Blk.frozen (t := e) (cs := cur) hh i
theorem own_cellI {w : World} {base : Nat} {e : TypeId} {n c g : Nat} {xs : List Int} (h : w.ownsRow base e 1 (.slice (some ⟨g, 0, none⟩) n c) n (cI xs)) (hn : xs.length = n) {i : Nat} (hi : i < n) : w.cell? ⟨g, i, none⟩ = some (.int .i64 (xs.getD i 0)) := by
  rcases h.2 with ⟨h1, _⟩ | ⟨g', cap, cur, hv, hge, hh, _, _, _, ht⟩
  · cases h1
  · injection hv with h1 _ _
    injection h1 with h1
    injection h1 with h1 _ _
    subst h1
    have hB : Blk w g e cur := hh
    refine hB.cellAt i _ ?_
    have h5 := getD_cI xs i (by omega)
    rw [← ht, Nat.mul_one, List.getElem?_take_of_lt hi] at h5
    rw [← Array.getElem?_toList]; exact h5
theorem own_setI {w : World} {base : Nat} {e : TypeId} {n c g : Nat} {xs : List Int} (h : w.ownsRow base e 1 (.slice (some ⟨g, 0, none⟩) n c) n (cI xs)) (hn : xs.length = n) {i : Nat} (hi : i < n) (v : Int) :
    (w.setCell ⟨g, i, none⟩ (.int .i64 v)).ownsRow base e 1 (.slice (some ⟨g, 0, none⟩) n c) n (cI (xs.set i v)) := by
  refine ⟨by simpa [cI] using h.1, .inr ?_⟩
  rcases h.2 with ⟨h1, _⟩ | ⟨g', cap, cur, hv, hge, hh, h6, h7, h8, ht⟩
  · cases h1
  · injection hv with h1 h2 h3
    injection h1 with h1
    injection h1 with h1 _ _
    subst h1
    have hB : Blk w g e cur := hh
    refine ⟨g, cap, cur.setIfInBounds i (.int .i64 v), by rw [h3], hge, hB.set_ i _, h6, h7, by simpa using h8, ?_⟩
    rw [Array.toList_setIfInBounds, cI_set, ← ht, List.take_set]

/-- The first k places merged. -/
def mergeTo (f t : Int) (x : List Int) (k : Nat) : List Int := mergeL f t (x.take k) ++ x.drop k
theorem mergeTo_zero (f t : Int) (x : List Int) : mergeTo f t x 0 = x := by simp [mergeTo, mergeL]
theorem mergeTo_all (f t : Int) (x : List Int) : mergeTo f t x x.length = mergeL f t x := by simp [mergeTo]
theorem mergeTo_len (f t : Int) (x : List Int) (k : Nat) : (mergeTo f t x k).length = x.length := by simp [mergeTo, mergeL]; omega
theorem mergeTo_getD (f t : Int) (x : List Int) (k : Nat) (hk : k < x.length) : (mergeTo f t x k).getD k 0 = x.getD k 0 := by
  have h : (mergeL f t (x.take k)).length = k := by simp [mergeL]; omega
  simp [mergeTo, List.getD, List.getElem?_append_right, h]
theorem mergeTo_yes (f t : Int) (x : List Int) (k : Nat) (hk : k < x.length) (h : x.getD k 0 = f) : (mergeTo f t x k).set k t = mergeTo f t x (k + 1) := by
  have hlen : (mergeL f t (x.take k)).length = k := by simp [mergeL]; omega
  have h2 : x[k]? = some f := by simpa [List.getD, hk] using h
  rw [mergeTo, mergeTo, List.set_append_right _ _ (by omega), hlen, Nat.sub_self, List.take_add_one, h2]
  have h3 : x.drop k = f :: x.drop (k + 1) := by
    rw [List.drop_eq_getElem_cons hk]
    congr 1
    simpa [hk] using h2
  rw [h3]
  simp [mergeL]
theorem mergeTo_no (f t : Int) (x : List Int) (k : Nat) (hk : k < x.length) (h : x.getD k 0 ≠ f) : mergeTo f t x k = mergeTo f t x (k + 1) := by
  have h3 : x.drop k = x[k] :: x.drop (k + 1) := List.drop_eq_getElem_cons hk
  have h4 : x[k] ≠ f := by simpa [List.getD, hk] using h
  rw [mergeTo, mergeTo, List.take_add_one, List.getElem?_eq_getElem hk, h3]
  simp only [mergeL, List.map_append, List.map_cons, List.map_nil, if_neg h4, Option.toList_some, List.append_assoc, List.singleton_append]
end Go.Proofs.YtjgmoffkecnmcaaGreat
