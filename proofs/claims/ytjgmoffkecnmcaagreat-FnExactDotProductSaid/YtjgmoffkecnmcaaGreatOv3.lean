/- Opened vertices: the plain law. No statement of the program is proved here. -/
import Derived.Test.YtjgmoffkecnmcaaGreatBr1
import Derived.Test.YtjgmoffkecnmcaaGreatOv1
namespace Go.Proofs.YtjgmoffkecnmcaaGreat
open Go.RowKit
set_option linter.unusedSimpArgs false
set_option linter.unusedVariables false
set_option maxRecDepth 20000

/-- At a vertex of a graph there are three edges. -/
theorem atL_three {n : Int} {es : List (Int × Int)} (h : isGraphB n es = true) {v : Int} (hv : inB v 0 (n - 1) = true) :
    ∃ a b c : Nat, atL es v = [(a : Int), (b : Int), (c : Int)] ∧ a < b ∧ b < c ∧ c < es.length ∧ onB (es.getD a (0, 0)) v = true ∧ onB (es.getD b (0, 0)) v = true ∧ onB (es.getD c (0, 0)) v = true := by
  have h2 := h
  simp only [isGraphB, Bool.and_eq_true] at h2
  have h3 := areEdgesB_in h2.1
  have hn := isGraphB_n h
  have hb := inB_true.1 hv
  obtain ⟨u, rfl⟩ : ∃ u : Nat, v = u := ⟨v.toNat, by omega⟩
  have hd : (degs n.toNat es).getD u 0 = 3 := by
    have hall := h2.2
    have key : ∀ (xs : List Int), (xs.all fun k => decide (k = 3)) = true → ∀ j, j < xs.length → xs.getD j 0 = 3 := fun xs hx j hl => by
      rw [List.all_eq_true] at hx
      have := hx xs[j] (List.getElem_mem hl)
      simpa [List.getD, hl] using this
    exact key _ hall.2.2 u (by rw [degs_len]; omega)
  have h1 := degs_at h3.2.2.2.1 h3.2.2.2.2 (v := u) (by omega) es.length (Nat.le_refl _)
  rw [List.take_length, hd] at h1
  have hlen : ((List.range es.length).filter fun j => onB (es.getD j (0, 0)) u).length = 3 := by omega
  have hp : (((List.range es.length).filter fun j => onB (es.getD j (0, 0)) u)).Pairwise (· < ·) := List.Pairwise.filter _ List.pairwise_lt_range
  have hm : ∀ x ∈ ((List.range es.length).filter fun j => onB (es.getD j (0, 0)) u), x < es.length ∧ onB (es.getD x (0, 0)) u = true := fun x hx => by
    rw [List.mem_filter, List.mem_range] at hx; exact hx
  have hA : atL es u = ((List.range es.length).filter fun j => onB (es.getD j (0, 0)) u).map fun (j : Nat) => (j : Int) := rfl
  rw [hA]
  generalize ((List.range es.length).filter fun j => onB (es.getD j (0, 0)) u) = F at *
  match F, hlen, hp, hm with
  | [x0, x1, x2], _, hp, hm =>
    rw [List.pairwise_cons, List.pairwise_cons] at hp
    have a1 := hp.1 x1 (by simp)
    have a2 := hp.2.1 x2 (by simp)
    exact ⟨x0, x1, x2, rfl, a1, a2, (hm x2 (by simp)).1, (hm x0 (by simp)).2, (hm x1 (by simp)).2, (hm x2 (by simp)).2⟩
theorem graph_bounds {n : Int} {es : List (Int × Int)} (h : isGraphB n es = true) {k : Nat} (hk : k < es.length) : (0 ≤ (es.getD k (0, 0)).1 ∧ (es.getD k (0, 0)).1 ≤ 20) ∧ (0 ≤ (es.getD k (0, 0)).2 ∧ (es.getD k (0, 0)).2 ≤ 20) := by
  have hn := isGraphB_n h
  obtain ⟨a, b, h1, h2, h3⟩ := isGraphB_in h k hk
  rw [h1]; dsimp only; omega

/-- The other end of the edge of number i. -/
def othE (es : List (Int × Int)) (v : Int) (i : Nat) : Int := (es.getD i (0, 0)).1 + (es.getD i (0, 0)).2 - v
/-- impl's edges while two of them are bent. -/
def ovJ (n : Int) (es : List (Int × Int)) (v : Int) (a b : Nat) (j : Nat) : List (Int × Int) :=
  if j = 0 then es else if j = 1 then es.set a (othE es v a, n) else (es.set a (othE es v a, n)).set b (othE es v b, n + 1)
def ovI (n : Int) (es : List (Int × Int)) (v : Int) (a b : Nat) : List (Int × Int) := ovJ n es v a b 2 ++ [(v, n), (n, n + 1), (n + 1, v)]
theorem ovJ_len (n : Int) (es : List (Int × Int)) (v : Int) (a b : Nat) (j : Nat) : (ovJ n es v a b j).length = es.length := by
  unfold ovJ; split
  · rfl
  · split <;> simp
theorem ovI_len (n : Int) (es : List (Int × Int)) (v : Int) (a b : Nat) : (ovI n es v a b).length = es.length + 3 := by simp [ovI, ovJ_len]
/-- The reference's edges. -/
def ov1 (n : Int) (es : List (Int × Int)) (v : Int) (a b : Nat) (i : Nat) : Int × Int := if (i : Int) = a then (n, othE es v i) else if (i : Int) = b then (n + 1, othE es v i) else es.getD i (0, 0)
def ovK (n : Int) (es : List (Int × Int)) (v : Int) (a b : Nat) (k : Nat) : List (Int × Int) := (List.range k).map (ov1 n es v a b)
theorem ovK_succ (n : Int) (es : List (Int × Int)) (v : Int) (a b : Nat) (k : Nat) : ovK n es v a b (k + 1) = ovK n es v a b k ++ [ov1 n es v a b k] := by simp [ovK, List.range_succ]
theorem ovK_len (n : Int) (es : List (Int × Int)) (v : Int) (a b : Nat) (k : Nat) : (ovK n es v a b k).length = k := by simp [ovK]
def ovS (n : Int) (es : List (Int × Int)) (v : Int) (a b : Nat) : List (Int × Int) := ovK n es v a b es.length ++ [(v, n), (v, n + 1), (n, n + 1)]
theorem ovS_len (n : Int) (es : List (Int × Int)) (v : Int) (a b : Nat) : (ovS n es v a b).length = es.length + 3 := by simp [ovS, ovK_len]
theorem ov_mm (n : Int) (es : List (Int × Int)) (v : Int) (a b : Nat) (hab : a < b) (hb : b < es.length) : (ovK n es v a b es.length).map mmE = (ovJ n es v a b 2).map mmE := by
  apply List.ext_getElem
  · simp [ovK_len, ovJ_len]
  · intro i h1 h2
    rw [List.length_map, ovK_len] at h1
    simp only [List.getElem_map]
    have e1 : (ovK n es v a b es.length)[i]'(by rw [ovK_len]; exact h1) = ov1 n es v a b i := by simp [ovK]
    have e2 : (ovJ n es v a b 2)[i]'(by rw [ovJ_len]; exact h1) = (ovJ n es v a b 2).getD i (0, 0) := by simp [List.getD, ovJ_len, h1]
    rw [e1, e2]
    have e3 : ovJ n es v a b 2 = (es.set a (othE es v a, n)).set b (othE es v b, n + 1) := rfl
    rw [e3, set_getD (by simpa using hb), set_getD (by omega)]
    unfold ov1
    by_cases hib : i = b
    · subst hib
      rw [if_neg (by omega), if_pos rfl, if_pos rfl, mmE_swap]
    · rw [if_neg (c := i = b) hib]
      by_cases hia : i = a
      · subst hia
        rw [if_pos rfl, if_pos rfl, mmE_swap]
      · rw [if_neg (by omega), if_neg (by omega), if_neg hia]
theorem ov_made (n : Int) (es : List (Int × Int)) (v : Int) (a b : Nat) (hab : a < b) (hb : b < es.length) : madeE (ovS n es v a b) = madeE (ovI n es v a b) := by
  refine madeE_congr ?_
  unfold ovS ovI
  rw [List.map_append, List.map_append, ov_mm n es v a b hab hb]
  refine List.Perm.append_left _ ?_
  simp only [List.map_cons, List.map_nil]
  rw [mmE_swap (n + 1) v]
  exact List.Perm.cons _ (List.Perm.swap _ _ _)
/-- The opened graph and the code. -/
def openV (n : Int) (es : List (Int × Int)) (v : Int) : Int × List (Int × Int) × Int :=
  if isGraphB n es = false then (0, [], 1) else if inB v 0 (n - 1) = false then (0, [], 2) else limV (n + 2) (ovI n es v ((atL es v).getD 1 0).toNat ((atL es v).getD 2 0).toNat)
theorem lenOpen (n : Int) (es : List (Int × Int)) (v : Int) (h : es.length ≤ 1048576) : (openV n es v).2.1.length ≤ 1048576 := by
  unfold openV
  split
  · simp
  · rename_i hg
    split
    · simp
    · refine Nat.le_trans (limV_len _ _) ?_
      rw [ovI_len]
      have h3 := isGraphB_len (n := n) (es := es) (by simpa using hg)
      omega
end Go.Proofs.YtjgmoffkecnmcaaGreat
