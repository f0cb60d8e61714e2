/- Cut edges: the plain law. No statement of the program is proved here. -/
import Derived.Test.YtjgmoffkecnmcaaGreatTg2
import Derived.Test.YtjgmoffkecnmcaaGreatOt2
namespace Go.Proofs.YtjgmoffkecnmcaaGreat
open Go.RowKit
set_option linter.unusedSimpArgs false
set_option linter.unusedVariables false
set_option maxRecDepth 20000

/-- A list of two in rising order. -/
theorem upI_two (x y : Int) : upI [x, y] = [x, y] ∨ upI [x, y] = [y, x] := by
  have hp : (upI [x, y]).Perm [x, y] := List.mergeSort_perm _ _
  have hl := upI_len [x, y]
  match h : upI [x, y], hl with
  | [p, q], _ =>
    rw [h] at hp
    have hm : p ∈ [x, y] := hp.mem_iff.1 (by simp)
    simp only [List.mem_cons, List.not_mem_nil, or_false] at hm
    rcases hm with rfl | rfl
    · left
      have := hp.cons_inv
      simp only [List.singleton_perm_singleton] at this
      rw [this]
    · right
      have h2 : [p, q].Perm [p, x] := hp.trans (List.Perm.swap _ _ _)
      have := h2.cons_inv
      simp only [List.singleton_perm_singleton] at this
      rw [this]
theorem joinC_comm (es : List (Int × Int)) (a b : Int) (k : Nat) : joinC es a b k = joinC es b a k := by
  unfold joinC joinL
  congr 3
  funext j
  unfold isJ
  rw [Int.min_comm, Int.max_comm]
/-- Without the one edge that joins u and v. -/
theorem endW_but {es : List (Int × Int)} {u v : Int} {k : Nat} (hk : k < es.length) (hk1 : onB (es.getD k (0, 0)) u = true) (hk2 : (es.getD k (0, 0)).1 + (es.getD k (0, 0)).2 - u = v) (h : joinN es u v = 1) : endW es u k = butL es u v := by
  unfold endW butL endsL
  rw [List.filter_map]
  congr 1
  have hka : (k : Int) ∈ atL es u := by
    simp only [atL, atTo, nbrTo, List.mem_map, List.mem_filter, List.mem_range]
    exact ⟨k, ⟨hk, hk1⟩, rfl⟩
  have hone : ((atL es u).filter fun a => decide ((es.getD a.toNat (0, 0)).1 + (es.getD a.toNat (0, 0)).2 - u = v)).length = 1 := by
    rw [← h]
    unfold joinN endsL
    rw [List.filter_map, List.length_map]
    rfl
  obtain ⟨x, hx⟩ := List.length_eq_one_iff.1 hone
  have hkx : (k : Int) = x := by
    have : (k : Int) ∈ ((atL es u).filter fun a => decide ((es.getD a.toNat (0, 0)).1 + (es.getD a.toNat (0, 0)).2 - u = v)) := List.mem_filter.2 ⟨hka, by rw [Int.toNat_natCast]; simpa using hk2⟩
    rw [hx] at this
    simpa using this
  refine List.filter_congr fun a ha => ?_
  rw [Bool.eq_iff_iff]
  simp only [decide_eq_true_eq, Function.comp, Bool.not_eq_true', decide_eq_false_iff_not]
  constructor
  · intro hne he
    have : a ∈ ((atL es u).filter fun a => decide ((es.getD a.toNat (0, 0)).1 + (es.getD a.toNat (0, 0)).2 - u = v)) := List.mem_filter.2 ⟨ha, by simpa using he⟩
    rw [hx] at this
    simp only [List.mem_singleton] at this
    exact hne (this.trans hkx.symm)
  · intro hne he
    subst he
    rw [Int.toNat_natCast] at hne
    exact hne hk2
theorem split_len (us : List Int) (b : Int) : (us.filter fun x => !decide (x = b)).length + (us.filter fun v => decide (v = b)).length = us.length := by
  induction us with
  | nil => rfl
  | cons u us ih =>
    by_cases h : u = b
    · simp only [List.filter_cons, h, decide_true, Bool.not_true, if_true, List.length_cons]
      simp only [Bool.false_eq_true, if_false]
      omega
    · simp only [List.filter_cons, h, decide_false, Bool.not_false, if_true, List.length_cons]
      simp only [Bool.false_eq_true, if_false]
      omega
theorem butL_two {n : Int} {es : List (Int × Int)} (hg : isGraphB n es = true) {u v : Int} (hu : inB u 0 (n - 1) = true) (h : joinN es u v = 1) : (butL es u v).length = 2 := by
  have h3 := (ends_three hg hu).2.1
  have h4 := split_len (endsL es u) v
  unfold joinN at h
  unfold butL
  omega
theorem butL_mem {n : Int} {es : List (Int × Int)} (hg : isGraphB n es = true) {u v : Int} (hu : inB u 0 (n - 1) = true) {x : Int} (hx : x ∈ butL es u v) : 0 ≤ x ∧ x < n ∧ x ≠ u ∧ x ≠ v := by
  unfold butL at hx
  rw [List.mem_filter] at hx
  obtain ⟨hx, h2⟩ := hx
  obtain ⟨i, hi, rfl⟩ := List.mem_iff_getElem.1 hx
  have h3 := ends_three hg hu
  have h4 := h3.2.2 i (by rw [← h3.2.1]; exact hi)
  have e : (endsL es u).getD i 0 = (endsL es u)[i] := by simp [List.getD, hi]
  rw [e] at h4
  exact ⟨h4.1, h4.2.1, h4.2.2, by simpa using h2⟩
def cutPr (T : Nat) (pa : List Int) : Int × Int := (frV T 0 (pa.getD 0 0).toNat, frV T 0 (pa.getD 1 0).toNat)
/-- The edges that are left and the two new ones. -/
def cutL (T : Nat) (es : List (Int × Int)) (pa pb : List Int) : List (Int × Int) := woL T 0 es ++ [cutPr T pa, cutPr T pb]
theorem cutL_len (T : Nat) (es : List (Int × Int)) (pa pb : List Int) : (cutL T es pa pb).length = (woL T 0 es).length + 2 := by simp [cutL]
theorem cut_made (T : Nat) (es : List (Int × Int)) {pa pb : List Int} (ha : pa.length = 2) (hb : pb.length = 2) : madeE (cutL T es pa pb) = madeE (cutL T es (upI pa) (upI pb)) := by
  have key : ∀ xs : List Int, xs.length = 2 → mmE (cutPr T xs) = mmE (cutPr T (upI xs)) := by
    intro xs hx
    match xs, hx with
    | [x, y], _ =>
      rcases upI_two x y with h | h
      · rw [h]
      · rw [h]; exact mmE_swap _ _
  refine madeE_congr ?_
  rw [cutL, cutL, List.map_append, List.map_append]
  simp only [List.map_cons, List.map_nil, key pa ha, key pb hb]
  exact .refl _
theorem up_eq {xs : List Int} (h : xs.length = 2) : (upI xs).getD 0 0 = (upI xs).getD 1 0 ↔ xs.getD 0 0 = xs.getD 1 0 := by
  match xs, h with
  | [x, y], _ =>
    rcases upI_two x y with h | h
    · rw [h]
    · rw [h]; exact ⟨Eq.symm, Eq.symm⟩
/-- The cut edge and the code. -/
def badC (es : List (Int × Int)) (u v : Int) : Prop := joinN es u v ≠ 1 ∨ (upI (butL es u v)).getD 0 0 = (upI (butL es u v)).getD 1 0 ∨ (upI (butL es v u)).getD 0 0 = (upI (butL es v u)).getD 1 0
instance (es : List (Int × Int)) (u v : Int) : Decidable (badC es u v) := by unfold badC; infer_instance
def cutV (n : Int) (es : List (Int × Int)) (e : Int) : Int × List (Int × Int) × Int :=
  if isGraphB n es = false then (0, [], 1) else if inB e 0 ((es.length : Int) - 1) = false then (0, [], 2)
  else if badC es (es.getD e.toNat (0, 0)).1 (es.getD e.toNat (0, 0)).2 then (0, [], 5)
  else (n - 2, madeE (cutL (setN [(es.getD e.toNat (0, 0)).1, (es.getD e.toNat (0, 0)).2]) es (upI (butL es (es.getD e.toNat (0, 0)).1 (es.getD e.toNat (0, 0)).2)) (upI (butL es (es.getD e.toNat (0, 0)).2 (es.getD e.toNat (0, 0)).1))), 0)
theorem lenCut (n : Int) (es : List (Int × Int)) (e : Int) (h : es.length ≤ 1048576) : (cutV n es e).2.1.length ≤ 1048576 := by
  by_cases hg : isGraphB n es = true
  · have := isGraphB_len hg
    unfold cutV
    split
    · simp
    · split
      · simp
      · split
        · simp
        · rw [madeE_len, cutL_len]
          have := woL_len (setN [(es.getD e.toNat (0, 0)).1, (es.getD e.toNat (0, 0)).2]) 0 es
          omega
  · unfold cutV
    rw [if_pos (by simpa using hg)]
    simp
end Go.Proofs.YtjgmoffkecnmcaaGreat
