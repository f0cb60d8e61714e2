/- Dot products: the plain law and what it stands on. No statement of the program is proved here. -/
import Derived.Test.YtjgmoffkecnmcaaGreatSr1
import Derived.Test.YtjgmoffkecnmcaaGreatAt
import Derived.Test.YtjgmoffkecnmcaaGreatGr
import Derived.Test.YtjgmoffkecnmcaaGreatAp1
import Derived.Test.YtjgmoffkecnmcaaGreatEx2
import Derived.RangeFuncNested
import Derived.RangeFuncBound
import Derived.RangeFuncCalls
import Derived.RangeFuncLeaves
import Derived.RangeFuncBox
import Derived.Shelf.Abstract
import Derived.Shelf.RegionOpen
import Derived.Shelf.SlIter.Collect
import Derived.OwnWalkIn
import Derived.TacticsInMore
import Derived.LoopNIn
import Derived.LoopIn
import Derived.Test.YtjgmoffkecnmcaaGreatSd
import Derived.Lib.SlKeysI
import Derived.Test.YtjgmoffkecnmcaaGreatGm2
import Derived.Test.YtjgmoffkecnmcaaGreatNe1
import Derived.Lib.AppendZerosOnto
import Derived.Laws.Append
import Derived.Laws.AppendOwn
import Derived.Test.YtjgmoffkecnmcaaGreatBr1
namespace Go.Proofs.YtjgmoffkecnmcaaGreat
open Go.RowKit
set_option linter.unusedSimpArgs false
set_option linter.unusedVariables false
set_option maxRecDepth 20000

/-- A set without one of its members. -/
def outS (T l : Nat) : Nat := T &&& (18446744073709551615 - 2 ^ l)
theorem outS_bit {T l i : Nat} (hl : l < 64) (hi : i < 64) : (outS T l).testBit i = (T.testBit i && !decide (i = l)) := by
  have h1 : 18446744073709551615 - 2 ^ l = 2 ^ 64 - (2 ^ l + 1) := by omega
  have h2 : 2 ^ l < 2 ^ 64 := Nat.pow_lt_pow_right (by decide) hl
  rw [outS, Nat.testBit_and, h1, Nat.testBit_two_pow_sub_succ h2, pow_bit]
  simp [hi]
theorem outS_lt {T l : Nat} (h : T < 2 ^ 63) : outS T l < 2 ^ 63 := Nat.lt_of_le_of_lt Nat.and_le_left h
/-- Numbers from the least vertex on come back up. -/
def fixV (l : Nat) (x : Int) : Int := if x ≥ (l : Int) then x + 1 else x
theorem shC_low {T l : Nat} (h : ∀ i, i < l → T.testBit i = false) : ∀ v, v ≤ l → shC T v = 0 := by
  intro v
  induction v with
  | zero => intro _; simp [shC]
  | succ v ih => intro hv; rw [shC_next, ih (by omega), h v (by omega)]; rfl
theorem shC_out {T l : Nat} (hl : l < 60) (h : ∀ i, i < l → T.testBit i = false) (hT : T.testBit l = true) : ∀ d, l + 1 + d ≤ 60 → shC T (l + 1 + d) = shC (outS T l) (l + 1 + d) + 1 ∧ shC T (l + 1 + d) + l ≤ l + 1 + d := by
  have hO : ∀ i, i < l → (outS T l).testBit i = false := fun i hi => by rw [outS_bit (by omega) (by omega), h i hi]; rfl
  intro d
  induction d with
  | zero =>
    intro _
    rw [Nat.add_zero, shC_next, shC_next, shC_low h l (Nat.le_refl _), shC_low hO l (Nat.le_refl _), hT, outS_bit (by omega) (by omega), hT]
    simp
    omega
  | succ d ih =>
    intro hd
    obtain ⟨h1, h2⟩ := ih (by omega)
    rw [show l + 1 + (d + 1) = (l + 1 + d) + 1 by omega, shC_next T, shC_next (outS T l), h1, outS_bit (by omega) (by omega)]
    have hne : ¬ (l + 1 + d = l) := by omega
    rw [h1] at h2
    cases hb : T.testBit (l + 1 + d)
    · simp; omega
    · simp [hne]; omega
/-- The new number of a vertex outside. -/
theorem fix_fr {T l v : Nat} (hl : l < 60) (h : ∀ i, i < l → T.testBit i = false) (hT : T.testBit l = true) (hv : T.testBit v = false) (h60 : v ≤ 60) : fixV l (frV T 0 v) = frV (outS T l) 0 v := by
  have hO : ∀ i, i < l → (outS T l).testBit i = false := fun i hi => by rw [outS_bit (by omega) (by omega), h i hi]; rfl
  unfold fixV frV
  by_cases h1 : v ≤ l
  · have h2 : v ≠ l := by intro e; subst e; rw [hT] at hv; cases hv
    rw [shC_low h v h1, shC_low hO v h1, if_neg (by omega)]
  · obtain ⟨d, rfl⟩ : ∃ d, v = l + 1 + d := ⟨v - l - 1, by omega⟩
    obtain ⟨h3, h4⟩ := shC_out hl h hT d h60
    rw [if_pos (by omega), h3]
    omega
theorem fr_least {T l : Nat} (hl : l < 60) (h : ∀ i, i < l → T.testBit i = false) : frV (outS T l) 0 l = l := by
  have hO : ∀ i, i < l → (outS T l).testBit i = false := fun i hi => by rw [outS_bit (by omega) (by omega), h i hi]; rfl
  unfold frV
  rw [shC_low hO l (Nat.le_refl _)]
  omega

/-- Both ends in the set. -/
def inS2 (T : Nat) (e : Int × Int) : Bool := T.testBit e.1.toNat && T.testBit e.2.toNat
/-- The edge, its ends in the set at the least vertex. -/
def trE (T l : Nat) (e : Int × Int) : Int × Int := (frV (outS T l) 0 (if T.testBit e.1.toNat = true then l else e.1.toNat), frV (outS T l) 0 (if T.testBit e.2.toNat = true then l else e.2.toNat))
/-- The program's edges. -/
def trL (T l : Nat) (es : List (Int × Int)) : List (Int × Int) := (es.filter fun e => !inS2 T e).map (trE T l)
theorem trL_snoc (T l : Nat) (es : List (Int × Int)) (e : Int × Int) : trL T l (es ++ [e]) = if inS2 T e = true then trL T l es else trL T l es ++ [trE T l e] := by
  unfold trL
  rw [List.filter_append, List.map_append]
  cases h : inS2 T e <;> simp [h]
theorem trL_len (T l : Nat) (es : List (Int × Int)) : (trL T l es).length ≤ es.length := by
  unfold trL; rw [List.length_map]; exact List.length_filter_le _ _

/-- The ends of the edges at x that lie outside. -/
def outL (T : Nat) (us : List Int) : List Int := us.filter fun u => !T.testBit u.toNat
def tsE (T l : Nat) (u : Int) : Int × Int := ((l : Int), fixV l (numV T 0 u.toNat))
/-- The reference's edges from one vertex of the triangle. -/
def ts1 (T l : Nat) (us : List Int) : List (Int × Int) := (outL T us).map (tsE T l)
theorem ts1_snoc (T l : Nat) (us : List Int) (u : Int) : ts1 T l (us ++ [u]) = if T.testBit u.toNat = true then ts1 T l us else ts1 T l us ++ [tsE T l u] := by
  unfold ts1 outL
  rw [List.filter_append, List.map_append]
  cases h : T.testBit u.toNat <;> simp [h]
theorem ts1_len (T l : Nat) (us : List Int) : (ts1 T l us).length ≤ us.length := by
  unfold ts1 outL; rw [List.length_map]; exact List.length_filter_le _ _
/-- The reference's edges: those outside, then those from the triangle. -/
def tsB (T l : Nat) (es : List (Int × Int)) : List (Int × Int) := (woL T 0 es).map fun e => (fixV l e.1, fixV l e.2)
def tsL (T l : Nat) (es : List (Int × Int)) (vs : List Int) : List (Int × Int) := tsB T l es ++ (vs.map fun v => ts1 T l (endsL es v)).flatten

theorem endsL_map (es : List (Int × Int)) (v : Int) : endsL es v = (es.filter fun e => onB e v).map fun e => e.1 + e.2 - v := by
  have key : ∀ k, k ≤ es.length → (atTo es v k).map (fun i => (es.getD i.toNat (0, 0)).1 + (es.getD i.toNat (0, 0)).2 - v) = ((es.take k).filter fun e => onB e v).map fun e => e.1 + e.2 - v := by
    intro k
    induction k with
    | zero => intro _; rfl
    | succ k ih =>
      intro hk
      have h1 : atTo es v (k + 1) = atTo es v k ++ (if onB (es.getD k (0, 0)) v = true then [(k : Int)] else []) := by
        unfold atTo nbrTo
        rw [List.range_succ, List.filter_append, List.map_append]
        congr 1
        by_cases h : onB (es.getD k (0, 0)) v = true
        · rw [if_pos h]; simp only [List.filter_cons, List.filter_nil, h, if_true, List.map_cons, List.map_nil]
        · rw [if_neg h]; simp only [List.filter_cons, List.filter_nil, h]; rfl
      rw [h1, List.map_append, ih (by omega), take_snocE es k (by omega), List.filter_append, List.map_append]
      congr 1
      by_cases h : onB (es.getD k (0, 0)) v = true
      · rw [if_pos h]; simp only [List.filter_cons, List.filter_nil, h, if_true, List.map_cons, List.map_nil, Int.toNat_natCast]
      · rw [if_neg h]; simp only [List.filter_cons, List.filter_nil, h]; rfl
  have := key es.length (Nat.le_refl _)
  rw [List.take_length] at this
  exact this
theorem filter_perm (es : List (Int × Int)) (p q : Int × Int → Bool) (h : ∀ e ∈ es, ¬ (p e = true ∧ q e = true)) : (es.filter fun e => p e || q e).Perm (es.filter p ++ es.filter q) := by
  induction es with
  | nil => exact .refl _
  | cons e es ih =>
    have ih := ih fun x hx => h x (List.mem_cons_of_mem _ hx)
    have h0 := h e (by simp)
    cases hp : p e <;> cases hq : q e
    · simpa [hp, hq] using ih
    · simp only [List.filter_cons, hp, hq, Bool.false_or, if_true]
      exact (ih.cons e).trans List.perm_middle.symm
    · simp only [List.filter_cons, hp, hq, Bool.true_or, if_true]
      exact ih.cons e
    · exact absurd ⟨hp, hq⟩ h0
/-- The edge from a vertex of the set to one outside. -/
def outB (T : Nat) (v : Int) (e : Int × Int) : Bool := onB e v && !T.testBit (e.1 + e.2 - v).toNat
theorem ts1_map (T l : Nat) (es : List (Int × Int)) (v : Int) : ts1 T l (endsL es v) = (es.filter (outB T v)).map fun e => tsE T l (e.1 + e.2 - v) := by
  rw [ts1, outL, endsL_map, List.filter_map, List.filter_filter, List.map_map]
  have h : (es.filter fun e => ((fun u : Int => !T.testBit u.toNat) ∘ fun e : Int × Int => e.1 + e.2 - v) e && onB e v) = es.filter (outB T v) :=
    List.filter_congr fun e _ => by rw [outB, Bool.and_comm]; rfl
  rw [h]
  rfl
theorem mem_in {n : Int} {es : List (Int × Int)} (h : isGraphB n es = true) {e : Int × Int} (he : e ∈ es) : ∃ x y : Nat, e = ((x : Int), (y : Int)) ∧ x < 60 ∧ y < 60 ∧ x ≠ y := by
  obtain ⟨k, hk, rfl⟩ := List.mem_iff_getElem.1 he
  obtain ⟨x, y, hxy, hx, hy⟩ := isGraphB_in h k hk
  have hne := (isGraphB_ne h).2 k hk
  have hn := isGraphB_n h
  have e1 : es[k] = es.getD k (0, 0) := by simp [List.getD, hk]
  rw [hxy] at hne
  dsimp only at hne
  exact ⟨x, y, by rw [e1, hxy], by omega, by omega, by omega⟩
theorem outB_val {T v x y : Nat} (h : x ≠ y) : outB T (v : Int) ((x : Int), (y : Int)) = ((decide (x = v) && !T.testBit y) || (decide (y = v) && !T.testBit x)) := by
  unfold outB onB
  dsimp only
  by_cases h1 : x = v
  · subst h1
    have e1 : ((x : Int) + (y : Int) - (x : Int)).toNat = y := by omega
    have d1 : ¬ (y = x) := fun e => h e.symm
    rw [e1]
    simp [d1]
  · by_cases h2 : y = v
    · subst h2
      have e1 : ((x : Int) + (y : Int) - (y : Int)).toNat = x := by omega
      rw [e1]
      simp [h1]
    · have d1 : ¬ ((x : Int) = v) := by omega
      have d2 : ¬ ((y : Int) = v) := by omega
      simp [h1, h2, d1, d2]
theorem tr_made {n : Int} {es : List (Int × Int)} (h : isGraphB n es = true) {T l a b c : Nat} (hT : ∀ i : Nat, T.testBit i = (decide (i = a) || decide (i = b) || decide (i = c))) (hab : a ≠ b) (hac : a ≠ c) (hbc : b ≠ c) (hl : l < 60) (hlow : ∀ i, i < l → T.testBit i = false) (hlT : T.testBit l = true) :
    madeE (tsL T l es [(a : Int), (b : Int), (c : Int)]) = madeE (trL T l es) := by
  refine madeE_congr ?_
  have hin : ∀ e ∈ es, ∃ x y : Nat, e = ((x : Int), (y : Int)) ∧ x < 60 ∧ y < 60 ∧ x ≠ y := fun e he => mem_in h he
  have o1 : ∀ x y v : Nat, onB ((x : Int), (y : Int)) (v : Int) = (decide (x = v) || decide (y = v)) := fun x y v => by
    unfold onB
    congr 1
    · rw [decide_eq_decide]; dsimp only; omega
    · rw [decide_eq_decide]; dsimp only; omega
  -- the sets of edges
  have hp : (es.filter fun e => !inS2 T e) = es.filter fun e => !hasS T e || (outB T a e || (outB T b e || outB T c e)) := by
    refine List.filter_congr fun e he => ?_
    obtain ⟨x, y, rfl, hx, hy, hxy⟩ := hin e he
    rw [outB_val hxy, outB_val hxy, outB_val hxy]
    unfold inS2 hasS
    simp only [Int.toNat_natCast]
    rw [hT x, hT y]
    generalize decide (x = a) = xa
    generalize decide (x = b) = xb
    generalize decide (x = c) = xc
    generalize decide (y = a) = ya
    generalize decide (y = b) = yb
    generalize decide (y = c) = yc
    revert xa xb xc ya yb yc
    decide
  -- an edge that leaves the set has one end in it
  have hout : ∀ v : Nat, T.testBit v = true → ∀ e ∈ es, outB T (v : Int) e = true → hasS T e = true ∧ mmE (tsE T l (e.1 + e.2 - v)) = mmE (trE T l e) ∧ (∀ u : Nat, T.testBit u = true → u ≠ v → outB T (u : Int) e = false) := by
    intro v hv e he hoe
    obtain ⟨x, y, rfl, hx, hy, hxy⟩ := hin e he
    unfold outB at hoe
    rw [o1] at hoe
    rw [Bool.and_eq_true, Bool.not_eq_true'] at hoe
    obtain ⟨h1, h2⟩ := hoe
    have h3 : x = v ∨ y = v := by simpa using h1
    have hl0 := fr_least hl hlow
    rcases h3 with h3 | h3
    · subst h3
      have e1 : ((x : Int) + (y : Int) - (x : Int)).toNat = y := by omega
      dsimp only at h2 ⊢
      rw [e1] at h2
      refine ⟨by simp [hasS, hv], ?_, fun u hu hne => ?_⟩
      · unfold tsE trE
        dsimp only
        rw [e1, Int.toNat_natCast, Int.toNat_natCast, if_pos hv, if_neg (by rw [h2]; decide), hl0, numV_no h2, fix_fr hl hlow hlT h2 (by omega)]
      · unfold outB
        rw [o1]
        have d1 : ¬ (x = u) := fun e => hne e.symm
        have d2 : ¬ (y = u) := by intro e; subst e; rw [h2] at hu; cases hu
        simp [d1, d2]
    · subst h3
      have e1 : ((x : Int) + (y : Int) - (y : Int)).toNat = x := by omega
      dsimp only at h2 ⊢
      rw [e1] at h2
      refine ⟨by simp [hasS, hv], ?_, fun u hu hne => ?_⟩
      · unfold tsE trE
        dsimp only
        rw [e1, Int.toNat_natCast, Int.toNat_natCast, if_pos hv, if_neg (by rw [h2]; decide), hl0, numV_no h2, fix_fr hl hlow hlT h2 (by omega), mmE_swap]
      · unfold outB
        rw [o1]
        have d1 : ¬ (y = u) := fun e => hne e.symm
        have d2 : ¬ (x = u) := by intro e; subst e; rw [h2] at hu; cases hu
        simp [d1, d2]
  have ha1 : T.testBit a = true := by rw [hT]; simp
  have hb1 : T.testBit b = true := by rw [hT]; simp
  have hc1 : T.testBit c = true := by rw [hT]; simp
  have hperm : (es.filter fun e => !inS2 T e).Perm ((es.filter fun e => !hasS T e) ++ (es.filter (outB T a) ++ (es.filter (outB T b) ++ es.filter (outB T c)))) := by
    rw [hp]
    refine (filter_perm es _ _ fun e he hh => ?_).trans (List.Perm.append_left _ ((filter_perm es _ _ fun e he hh => ?_).trans (List.Perm.append_left _ (filter_perm es _ _ fun e he hh => ?_))))
    · obtain ⟨h1, h2⟩ := hh
      rw [Bool.not_eq_true'] at h1
      rcases (by simpa using h2 : outB T a e = true ∨ outB T b e = true ∨ outB T c e = true) with h3 | h3 | h3
      · have := (hout a ha1 e he h3).1; rw [h1] at this; cases this
      · have := (hout b hb1 e he h3).1; rw [h1] at this; cases this
      · have := (hout c hc1 e he h3).1; rw [h1] at this; cases this
    · obtain ⟨h1, h2⟩ := hh
      have h4 := (hout a ha1 e he h1).2.2
      rcases (by simpa using h2 : outB T b e = true ∨ outB T c e = true) with h3 | h3
      · rw [h4 b hb1 (Ne.symm hab)] at h3; cases h3
      · rw [h4 c hc1 (Ne.symm hac)] at h3; cases h3
    · obtain ⟨h1, h2⟩ := hh
      rw [(hout b hb1 e he h1).2.2 c hc1 (Ne.symm hbc)] at h2; cases h2
  have hB : (tsB T l es).map mmE = ((es.filter fun e => !hasS T e).map (trE T l)).map mmE := by
    unfold tsB woL
    rw [List.map_map, List.map_map, List.map_map]
    refine List.map_congr_left fun e he => ?_
    rw [List.mem_filter] at he
    obtain ⟨he, hs⟩ := he
    obtain ⟨x, y, rfl, hx, hy, hxy⟩ := hin e he
    simp only [hasS, Int.toNat_natCast, Bool.not_eq_true', Bool.or_eq_false_iff] at hs
    have f1 := fix_fr hl hlow hlT hs.1 (by omega)
    have f2 := fix_fr hl hlow hlT hs.2 (by omega)
    simp only [Function.comp, shE, trE, Int.toNat_natCast, hs.1, hs.2]
    rw [if_neg (by decide), if_neg (by decide), ← f1, ← f2]
    rfl
  have hV : ∀ v : Nat, T.testBit v = true → (ts1 T l (endsL es v)).map mmE = ((es.filter (outB T v)).map (trE T l)).map mmE := by
    intro v hv
    rw [ts1_map, List.map_map, List.map_map]
    refine List.map_congr_left fun e he => ?_
    rw [List.mem_filter] at he
    exact (hout v hv e he.1 he.2).2.1
  have h9 := (hperm.map (trE T l)).map mmE
  have h8 : (tsL T l es [(a : Int), (b : Int), (c : Int)]).map mmE = (((es.filter fun e => !hasS T e) ++ (es.filter (outB T a) ++ (es.filter (outB T b) ++ es.filter (outB T c)))).map (trE T l)).map mmE := by
    unfold tsL
    simp only [List.map_cons, List.map_nil, List.flatten_cons, List.flatten_nil, List.append_nil, List.map_append]
    rw [hB, hV a ha1, hV b hb1, hV c hc1]
  rw [h8]
  exact h9.symm
theorem two_len {us : List Int} {b c : Int} (h : ∀ u ∈ us, u = b ∨ u = c) : us.length ≤ (us.filter fun v => decide (v = b)).length + (us.filter fun v => decide (v = c)).length := by
  induction us with
  | nil => simp
  | cons u us ih =>
    have ih := ih fun x hx => h x (List.mem_cons_of_mem _ hx)
    rcases h u (by simp) with h1 | h1
    · subst h1
      simp only [List.filter_cons, decide_true, if_true, List.length_cons]
      split
      · rw [List.length_cons]; omega
      · omega
    · subst h1
      simp only [List.filter_cons, decide_true, if_true, List.length_cons]
      split
      · rw [List.length_cons]; omega
      · omega
/-- An edge is left. -/
theorem trL_pos {n : Int} {es : List (Int × Int)} (h : isGraphB n es = true) {T l a b c : Nat} (hT : ∀ i : Nat, T.testBit i = (decide (i = a) || decide (i = b) || decide (i = c))) (ha : inB (a : Int) 0 (n - 1) = true) (h1 : joinN es a b = 1) (h2 : joinN es a c = 1) : 0 < (trL T l es).length := by
  have h3 := (ends_three h ha).2.1
  obtain ⟨u, hu, hub, huc⟩ : ∃ u ∈ endsL es a, u ≠ (b : Int) ∧ u ≠ (c : Int) := by
    refine Classical.byContradiction fun hn => ?_
    have := two_len (us := endsL es a) (b := b) (c := c) fun u hu => Classical.byContradiction fun h => hn ⟨u, hu, fun e => h (.inl e), fun e => h (.inr e)⟩
    unfold joinN at h1 h2
    omega
  rw [endsL_map, List.mem_map] at hu
  obtain ⟨e, he, rfl⟩ := hu
  rw [List.mem_filter] at he
  obtain ⟨he, hon⟩ := he
  unfold trL
  rw [List.length_map]
  refine List.length_pos_of_mem (a := e) (List.mem_filter.2 ⟨he, ?_⟩)
  obtain ⟨x, y, rfl, hx, hy, hxy⟩ := mem_in h he
  simp only [onB, Bool.or_eq_true, decide_eq_true_eq] at hon
  dsimp only at hub huc
  simp only [inS2, Int.toNat_natCast, Bool.not_eq_true', Bool.and_eq_false_iff, hT, Bool.or_eq_false_iff, decide_eq_false_iff_not]
  omega
/-- The vertices of the triangle and the least of them. -/
theorem tri_bits (a b c : Nat) (i : Nat) : (setN [(a : Int), (b : Int), (c : Int)]).testBit i = (decide (i = a) || decide (i = b) || decide (i = c)) := by
  rw [setN_bit (by simp)]
  rw [Bool.eq_iff_iff]
  simp only [List.mem_cons, List.not_mem_nil, or_false, Bool.or_eq_true, decide_eq_true_eq]
  omega
/-- The shrunk triangle and the code. -/
def triV (n : Int) (es : List (Int × Int)) (a b c : Int) : Int × List (Int × Int) × Int :=
  if isGraphB n es = false then (0, [], 1) else if (inB a 0 (n - 1) && inB b 0 (n - 1) && inB c 0 (n - 1)) = false then (0, [], 2)
  else if a = b ∨ a = c ∨ b = c ∨ joinN es a b ≠ 1 ∨ joinN es a c ≠ 1 ∨ joinN es b c ≠ 1 then (0, [], 5)
  else (n - 2, madeE (trL (setN [a, b, c]) (min a (min b c)).toNat es), 0)
theorem lenTri (n : Int) (es : List (Int × Int)) (a b c : Int) (h : es.length ≤ 1048576) : (triV n es a b c).2.1.length ≤ 1048576 := by
  unfold triV
  split
  · simp
  · split
    · simp
    · split
      · simp
      · rw [madeE_len]; have := trL_len (setN [a, b, c]) (min a (min b c)).toNat es; omega
end Go.Proofs.YtjgmoffkecnmcaaGreat
namespace Go.Proofs.YtjgmoffkecnmcaaGreat
open Go.RowKit
set_option linter.unusedSimpArgs false
set_option linter.unusedVariables false
set_option maxRecDepth 20000

/-- The edges that join a and b. -/
def isJ (a b : Int) (e : Int × Int) : Bool := decide (e.1 = min a b) && decide (e.2 = max a b)
def joinL (es : List (Int × Int)) (a b : Int) (k : Nat) : List Nat := (List.range k).filter fun j => isJ a b (es.getD j (0, 0))
def headJ : List Nat → Int
  | [] => -1
  | j :: _ => j
def joinC (es : List (Int × Int)) (a b : Int) (k : Nat) : Int := (joinL es a b k).length
def joinF (es : List (Int × Int)) (a b : Int) (k : Nat) : Int := headJ (joinL es a b k)
theorem joinL_succ (es : List (Int × Int)) (a b : Int) (k : Nat) : joinL es a b (k + 1) = joinL es a b k ++ if isJ a b (es.getD k (0, 0)) = true then [k] else [] := by
  unfold joinL
  rw [List.range_succ, List.filter_append]
  congr 1
  by_cases h : isJ a b (es.getD k (0, 0)) = true
  · rw [if_pos h]; simp only [List.filter_cons, List.filter_nil, h, if_true]
  · rw [if_neg h]; simp only [List.filter_cons, List.filter_nil, h]; rfl
theorem joinC_succ (es : List (Int × Int)) (a b : Int) (k : Nat) : joinC es a b (k + 1) = if isJ a b (es.getD k (0, 0)) = true then joinC es a b k + 1 else joinC es a b k := by
  unfold joinC
  rw [joinL_succ, List.length_append]
  split <;> simp
theorem joinF_succ (es : List (Int × Int)) (a b : Int) (k : Nat) : joinF es a b (k + 1) = if isJ a b (es.getD k (0, 0)) = true ∧ joinF es a b k < 0 then (k : Int) else joinF es a b k := by
  unfold joinF
  rw [joinL_succ]
  cases joinL es a b k with
  | nil =>
    by_cases h : isJ a b (es.getD k (0, 0)) = true
    · rw [if_pos h, if_pos ⟨h, by decide⟩]; rfl
    · rw [if_neg h, if_neg (fun h2 => h h2.1)]; rfl
  | cons j js =>
    have h0 : ¬ headJ (j :: js) < 0 := by show ¬ ((j : Nat) : Int) < 0; omega
    have h1 : ∀ ys, headJ (j :: js ++ ys) = headJ (j :: js) := fun _ => rfl
    rw [h1, if_neg (fun h2 : _ ∧ _ => h0 h2.2)]
theorem joinC_le (es : List (Int × Int)) (a b : Int) (k : Nat) : 0 ≤ joinC es a b k ∧ joinC es a b k ≤ k := by
  unfold joinC joinL
  have := List.length_filter_le (fun j => isJ a b (es.getD j (0, 0))) (List.range k)
  rw [List.length_range] at this
  omega
theorem joinF_le (es : List (Int × Int)) (a b : Int) (k : Nat) : -1 ≤ joinF es a b k ∧ joinF es a b k < k + 1 := by
  induction k with
  | zero => unfold joinF joinL; simp [headJ]
  | succ k ih => rw [joinF_succ]; split <;> omega
theorem joinC_count (es : List (Int × Int)) (a b : Int) : joinC es a b es.length = (es.filter (isJ a b)).length := by
  have key : ∀ k, k ≤ es.length → joinC es a b k = ((es.take k).filter (isJ a b)).length := by
    intro k
    induction k with
    | zero => intro _; rfl
    | succ k ih =>
      intro hk
      rw [joinC_succ, take_snocE es k (by omega), List.filter_append, List.length_append, ih (by omega)]
      by_cases h : isJ a b (es.getD k (0, 0)) = true
      · rw [if_pos h, List.filter_cons_of_pos h]; simp
      · rw [if_neg h, List.filter_cons_of_neg h]; simp
  have := key es.length (Nat.le_refl _)
  rw [List.take_length] at this
  exact this
theorem isGraphB_lt {n : Int} {es : List (Int × Int)} (h : isGraphB n es = true) {k : Nat} (hk : k < es.length) : (es.getD k (0, 0)).1 < (es.getD k (0, 0)).2 := by
  simp only [isGraphB, Bool.and_eq_true, List.all_eq_true, decide_eq_true_eq] at h
  have e1 : es.getD k (0, 0) = es[k] := by simp [List.getD, hk]
  rw [e1]
  exact h.2.1 _ (List.getElem_mem hk)
/-- Both counts of the edges between two vertices. -/
theorem joinN_C {n : Int} {es : List (Int × Int)} (h : isGraphB n es = true) {a b : Int} (hab : a ≠ b) : (joinN es a b : Int) = joinC es a b es.length := by
  rw [joinC_count, joinN, endsL_map, List.filter_map, List.filter_filter, List.length_map]
  congr 2
  refine List.filter_congr fun e he => ?_
  obtain ⟨k, hk, rfl⟩ := List.mem_iff_getElem.1 he
  have hlt := isGraphB_lt h hk
  have e1 : es[k] = es.getD k (0, 0) := by simp [List.getD, hk]
  rw [e1]
  generalize es.getD k (0, 0) = e at hlt
  obtain ⟨x, y⟩ := e
  dsimp only at hlt
  rw [Bool.eq_iff_iff]
  simp only [isJ, onB, Function.comp, Bool.and_eq_true, Bool.or_eq_true, decide_eq_true_eq]
  omega

set_option maxHeartbeats 4000000 in
theorem l06Joined_b (n : Int) (A : Option Addr) (c : Nat) (es : List (Int × Int)) (a b : Int) (w : World) (hl : es.length ≤ 1048576) (hr : RdE w A es) :
    Calls Tryz.prog 16 #[.agg #[.int .i64 n, .slice A es.length c], .int .i64 a, .int .i64 b] w fun e w' => e = .returned (.tuple #[.int .i64 (joinC es a b es.length), .int .i64 (joinF es a b es.length)]) ∧ Below w.heap.size w w' := by
  have Hre : Hid (∀ W, Below w.heap.size w W → RdE W A es) := fun W hW => hr.below hW
  obtain ⟨L, Hm⟩ : ∃ L, Hid (es.length = L) := ⟨_, rfl⟩
  rw [Hm.out] at hl ⊢
  clear hr
  obtain ⟨lo, Hlo⟩ : ∃ lo, Hid (min a b = lo) := ⟨_, rfl⟩
  obtain ⟨hi, Hhi⟩ : ∃ hi, Hid (max a b = hi) := ⟨_, rfl⟩
  have hmin : (if b < a then b else a) = lo := by rw [← Hlo.out]; split <;> omega
  have hmax : (if a < b then b else a) = hi := by rw [← Hhi.out]; split <;> omega
  have hmin2 : min a b = lo := Hlo.out
  have hmax2 : max a b = hi := Hhi.out
  go_enter Tryz.func16, Tryz.ntmps16
  go_wp2
  go_loopw [8, 9, 10] (fun cc ff ii wr => ∃ k : Nat, k ≤ L ∧ ii = .int .i64 k ∧ cc = .int .i64 (joinC es a b k) ∧ ff = .int .i64 (joinF es a b k) ∧ Hid (Blk wr w.heap.size 28 #[.int .i64 n, .slice A L c]) ∧ Hid (Below w.heap.size w wr)) (fun _ _ i _ => L - (intOf i).toNat)
  case atStart => exact ⟨0, Nat.zero_le _, rfl, rfl, rfl, Blk.new w _ _, by show Below _ _ _; (repeat' (first | (with_reducible exact Below.refl _ _) | (with_reducible assumption) | (with_reducible refine Below.alloc ?_ ?_ _) | (with_reducible refine Below.drew ?_) | (with_reducible refine below_drewN ?_ _) | (with_reducible refine Below.setCell ?_ ?_ _) | (with_reducible refine Below.trans ?_ (Below.mono (by assumption) ?_)) | (first | omega | (simp only [World.size_alloc, World.size_setCell, World.size_drew]; omega) | (simp; omega) | (simp; done))))⟩
  case round =>
    obtain ⟨k, hk, rfl, rfl, rfl, HK, Hbel⟩ := hrel
    have k0 := HK.out.cellAt 1 _ rfl
    by_cases hlt : k < L
    · obtain ⟨bb, off, rfl, hb, hc⟩ := (Hre.out wr Hbel.out).pos (by have := Hm.out; omega)
      obtain ⟨hc0, hc1⟩ := hc k (by have := Hm.out; omega)
      obtain ⟨⟨x, y⟩, Hx⟩ : ∃ x, Hid (es.getD k (0, 0) = x) := ⟨_, rfl⟩
      rw [Hx.out] at hc0 hc1
      dsimp only at hc0 hc1
      clear hc
      obtain ⟨ek, ek2, ek3⟩ := idxF k L hlt
      have Hc := Lib.hid (joinC_succ es a b k)
      have Hf := Lib.hid (joinF_succ es a b k)
      have hcb := joinC_le es a b k
      have Hj : Hid (isJ a b (es.getD k (0, 0)) = ((x == lo) && (y == hi))) := by show _ = _; rw [Hx.out, ← Hlo.out, ← Hhi.out]; rfl
      rw [Hj.out] at Hc Hf
      obtain ⟨C, HC⟩ : ∃ C, Hid (joinC es a b k = C) := ⟨_, rfl⟩
      obtain ⟨F, HF⟩ : ∃ F, Hid (joinF es a b k = F) := ⟨_, rfl⟩
      rw [HC.out] at Hc hcb
      rw [HF.out] at Hf
      simp only [HC.out, HF.out]
      have p1 : wrap64 (C + 1) = C + 1 := wrap64_small (by omega) (by omega)
      clear hcb
      cases q1 : (x == lo)
      · have Hc2 : Hid (C = joinC es a b (k + 1)) := by show _ = _; rw [Hc.out, q1]; rfl
        have Hf2 : Hid (F = joinF es a b (k + 1)) := by show _ = _; rw [Hf.out, q1]; simp
        clear Hc Hf
        go_wp2
        exact ⟨⟨k + 1, by omega, by go_num, by rw [← Hc2.out], by rw [← Hf2.out], HK, Hbel⟩, by simp [intOf]; omega⟩
      · cases q2 : (y == hi)
        · have Hc2 : Hid (C = joinC es a b (k + 1)) := by show _ = _; rw [Hc.out, q1, q2]; rfl
          have Hf2 : Hid (F = joinF es a b (k + 1)) := by show _ = _; rw [Hf.out, q1, q2]; simp
          clear Hc Hf
          go_wp2
          exact ⟨⟨k + 1, by omega, by go_num, by rw [← Hc2.out], by rw [← Hf2.out], HK, Hbel⟩, by simp [intOf]; omega⟩
        · have Hc2 : Hid (C + 1 = joinC es a b (k + 1)) := by show _ = _; rw [Hc.out, q1, q2]; rfl
          by_cases hF : F < 0
          · have g1 : decide (F < 0) = true := by simpa using hF
            have Hf2 : Hid ((k : Int) = joinF es a b (k + 1)) := by show _ = _; rw [Hf.out, q1, q2, if_pos ⟨rfl, hF⟩]
            clear Hc Hf hF
            go_wp2
            exact ⟨⟨k + 1, by omega, by go_num, by rw [← Hc2.out, p1], by rw [← Hf2.out], HK, Hbel⟩, by simp [intOf]; omega⟩
          · have g1 : decide (F < 0) = false := by simpa using hF
            have Hf2 : Hid (F = joinF es a b (k + 1)) := by show _ = _; rw [Hf.out, q1, q2, if_neg fun h => hF h.2]
            clear Hc Hf hF
            go_wp2
            exact ⟨⟨k + 1, by omega, by go_num, by rw [← Hc2.out, p1], by rw [← Hf2.out], HK, Hbel⟩, by simp [intOf]; omega⟩
    · obtain rfl : k = L := by omega
      go_wp2
      go_ret2
      exact ⟨rfl, Hbel.out⟩
end Go.Proofs.YtjgmoffkecnmcaaGreat
namespace Go.Proofs.YtjgmoffkecnmcaaGreat
open Go.RowKit Go.Shelf Go.Maps
set_option linter.unusedSimpArgs false
set_option linter.unusedVariables false
set_option maxRecDepth 100000
attribute [local go_sem] Oper.semAt_some

/-- The blocks below n₀ are as they were. -/
def KeepN (n₀ : Nat) (W W' : World) : Prop := ∀ b, b < n₀ → W'.heap[b]? = W.heap[b]?
theorem KeepN.refl (n₀ : Nat) (W : World) : KeepN n₀ W W := fun _ _ => rfl
theorem KeepN.trans {n₀ : Nat} {A B C : World} (h : KeepN n₀ A B) (k : KeepN n₀ B C) : KeepN n₀ A C := fun b h1 => (k b h1).trans (h b h1)
theorem KeepN.cell {n₀ : Nat} {A B : World} (h : KeepN n₀ A B) {b o : Nat} (h1 : b < n₀) : B.cell? ⟨b, o, none⟩ = A.cell? ⟨b, o, none⟩ := World.cell?_of_block (w := A) (a := ⟨b, o, none⟩) (h b h1)
theorem KeepN.put {n₀ : Nat} {w : World} (hn : n₀ ≤ w.heap.size) (W : World) (l : Nat) (o o' : Obj) (hl : w.heap.size ≤ l) (_ : W.heap[l]? = some o) (_ : o.isCells = false) (_ : o.isWalk = false) : KeepN n₀ W (W.putObj l o') := fun b h1 => World.putObj_heap_other (by omega)
theorem take_snocZ {xs : List Int} {k : Nat} (h : k < xs.length) : xs.take (k + 1) = xs.take k ++ [xs.getD k 0] := by
  rw [List.take_add_one, List.getElem?_eq_getElem h]; simp [List.getD, h]

set_option maxHeartbeats 4000000 in
theorem vals1_in (F : Fence) (n : Nat) (hf : F.fn 73) (hro : F.round = none) (hn : 1 ≤ n) (l Bs n₀ : Nat) (A : Option Addr) (cap : Nat) (zs : List Int) (hz : zs.length ≤ 1000000) (hA : 0 < zs.length → ∀ b o, A = some ⟨b, o, none⟩ → b < n₀) (J Jx : List Int → World → Prop)
    (hY : ∀ pre x W, J pre W → pre.length < zs.length → YieldAt F (n - 1) Tryz.prog l #[.int .i64 x] W fun e W' =>
      (e = .returned (.bool true) ∧ J (pre ++ [x]) W' ∧ KeepN n₀ W W') ∨ (e = .returned (.bool false) ∧ Jx (pre ++ [x]) W'))
    (W : World) (hBs : W.cell? ⟨Bs, 0, none⟩ = some (.slice A zs.length cap)) (hr : RdI W A zs) (h0 : J [] W) :
    CallsIn F n Tryz.prog 73 #[.func (.yield l) #[] #[], .pointer (some ⟨Bs, 0, none⟩)] W fun e W' => (∃ v, e = .returned v) ∧
      ((∃ ys, ys = zs ∧ J ys W') ∨ (∃ pre, (∃ k, k ≤ zs.length ∧ pre = zs.take k) ∧ Jx pre W')) := by
  refine callsIn_of_wp Tryz.func73 rfl hf ?_ hro
  simp only [Tryz.ntmps73, List.size_toArray, List.length_cons, List.length_nil, Nat.reduceAdd, Nat.reduceSub, Array.replicate_succ, Array.replicate_zero, List.push_toArray, List.append_toArray, List.nil_append, List.cons_append]
  obtain ⟨len, Hlen⟩ : ∃ len, Hid (zs.length = len) := ⟨_, rfl⟩
  rw [Hlen.out] at hBs hz hY ⊢
  gi_wp2
  gi_loopw [7] (fun i wr => ∃ k : Nat, k ≤ len ∧ i = .int .i64 k ∧ J (zs.take k) wr ∧ Hid (KeepN n₀ W wr)) (fun i _ => len - (intOf i).toNat)
  case atStart => exact ⟨0, Nat.zero_le _, by simp, h0, KeepN.refl _ _⟩
  case round =>
    obtain ⟨k, hk, rfl, hJs, hnx⟩ := hrel
    by_cases hlt : k < len
    · obtain ⟨b, off, rfl, hb, hc⟩ := hr.pos (by rw [Hlen.out]; omega)
      have hcx := (hnx.out.cell (o := off + k) (hA (by rw [Hlen.out]; omega) b off rfl)).trans (hc k (by rw [Hlen.out]; omega))
      have hkl : k < zs.length := by rw [Hlen.out]; exact hlt
      obtain ⟨fn, tmps, assign, body, hy, hR⟩ := hY _ (zs.getD k 0) wr hJs (by rw [List.length_take, Hlen.out]; omega)
      have Hsu : Hid (zs.take k ++ [zs.getD k 0] = zs.take (k + 1)) := (take_snocZ hkl).symm
      rw [Hsu.out] at hR
      obtain ⟨x, Hx⟩ : ∃ x, Hid (zs.getD k 0 = x) := ⟨_, rfl⟩
      rw [Hx.out] at hcx hy
      obtain ⟨ek, ek2, ek3⟩ := idxF k len hlt
      have w2 : wrap64 ((k : Int) + 1) = ((k + 1 : Nat) : Int) := by rw [wrap64_small (by omega) (by omega)]; omega
      clear hc hr hkl
      gi_wp2
      refine hR.mono ?_
      rintro e W3 (⟨rfl, hJ3, hk3⟩ | ⟨rfl, hJx3⟩)
      · gi_wp2
        go_roundw
        case rel => exact ⟨k + 1, by omega, by first | (rw [w2]; done) | rfl | (congr 1; omega), hJ3, hnx.out.trans hk3⟩
        case measure => first | (simp [intOf]; done) | (simp [intOf]; omega) | (rw [w2]; simp [intOf]; omega)
      · gi_wp2
        refine bodyPost_ret (results_none rfl _ _ _) rfl ?_
        exact ⟨⟨_, rfl⟩, .inr ⟨_, ⟨k + 1, by first | omega | (rw [Hlen.out]; omega), rfl⟩, hJx3⟩⟩
    · obtain rfl : k = len := by omega
      have hfull : zs.take k = zs := List.take_of_length_le (by rw [Hlen.out]; exact Nat.le_refl _)
      rw [hfull] at hJs
      gi_wp2
      go_end0
      exact ⟨⟨_, rfl⟩, .inl ⟨_, rfl, hJs⟩⟩

theorem vals_in (A : Option Addr) (len cap : Nat) (w : World) :
    Calls Tryz.prog 52 #[.slice A len cap] w fun e w' => e = .returned (.func (.func 73) #[] #[.pointer (some ⟨w.heap.size, 0, none⟩)]) ∧ w' = w.alloc (.cells #[.slice A len cap] 43) := by
  have hmf : ∀ (fn : Fn) (first cap : Array Value) (w : World), (Instr.makeFunc fn first cap).run Tryz.prog w = .ok (.func fn first cap) w := fun _ _ _ _ => rfl
  go_enter Tryz.func52, Tryz.ntmps52
  go_wp2
  go_ret
  exact ⟨rfl, rfl⟩
theorem vals_stops (F : Fence) (n : Nat) (hf : F.fn 73) (hro : F.round = none) (hn : 1 ≤ n) (Bs n₀ : Nat) (A : Option Addr) (cap : Nat) (zs : List Int) (hz : zs.length ≤ 1000000) (hA : 0 < zs.length → ∀ b o, A = some ⟨b, o, none⟩ → b < n₀)
    (w : World) (hB : Bs < w.heap.size) (hBs : w.cell? ⟨Bs, 0, none⟩ = some (.slice A zs.length cap)) (hr : RdI w A zs) :
    SeqStopsK F n Tryz.prog 73 #[.pointer (some ⟨Bs, 0, none⟩)] (fun x : Int => #[Value.int .i64 x]) (KeepN n₀) (fun ys => ys = zs) (fun pre => ∃ k, k ≤ zs.length ∧ pre = zs.take k) zs.length w :=
  fun l J Jx W hW _ _ hY h0 => vals1_in F n hf hro hn l Bs n₀ A cap zs hz hA J Jx hY W ((hW.cell (p := ⟨Bs, 0, none⟩) hB).trans hBs) (hr.below hW) h0

/-- What the rounds keep: the box, the row that it owns. -/
def apI (w : World) (pre : List Int) (W : World) : Prop :=
  (∃ v, Blk W w.heap.size 43 #[v] ∧ W.ownsRow (w.heap.size + 1) 2 1 v pre.length (cI pre)) ∧ Below w.heap.size w W
theorem apI_own (w : World) (B : Nat) (hB : w.heap.size ≤ B) : OwnFrom B (apI w) := fun s W W' row hs hg hr => by
  obtain ⟨⟨v, hb, ho⟩, hbel⟩ := hs
  refine ⟨⟨v, ?_, ho.kept hg ?_⟩, hbel.grown hg hbel.size (fun k e => Nat.le_trans hB (hr k e).1)⟩
  · have hb' : W.heap[w.heap.size]? = some (.cells #[v] 43 (0, 0)) := hb
    refine (hg.block w.heap.size hb.lt fun e => ?_).trans hb'
    obtain ⟨_, o, ho2, hc⟩ := hr _ e.symm
    rw [hb'] at ho2
    cases ho2; cases hc
  · rcases ho.2 with ⟨rfl, _⟩ | ⟨g, cap, cur, rfl, _, hgb, _⟩
    · exact .inl rfl
    · refine .inr fun e' => ?_
      obtain ⟨_, o, ho2, hc⟩ := hr g (by simpa [Value.ownBlock] using e'.symm)
      rw [hgb] at ho2; cases ho2; cases hc

set_option maxHeartbeats 8000000 in
theorem appendSeq_b (Bs : Nat) (A : Option Addr) (cap : Nat) (zs : List Int) (w : World) (hz : zs.length ≤ 1000000) (hB : Bs < w.heap.size) (hBs : w.cell? ⟨Bs, 0, none⟩ = some (.slice A zs.length cap)) (hr : RdI w A zs) :
    Calls Tryz.prog 85 #[.slice none 0 0, .func (.func 73) #[] #[.pointer (some ⟨Bs, 0, none⟩)]] w fun e w' => ∃ v, e = .returned v ∧ w'.ownsRow w.heap.size 2 1 v zs.length (cI zs) ∧ Below w.heap.size w w' := by
  obtain ⟨i0, hi, hz0, hz1, hz2⟩ := info_parts infoI
  have hA : 0 < zs.length → ∀ b o, A = some ⟨b, o, none⟩ → b < w.heap.size := fun hp b o e => by
    obtain ⟨b', o', e', hb', _⟩ := hr.pos hp
    rw [e'] at e; injection e with e; injection e with e _ _; omega
  have b1 : Below w.heap.size w (w.alloc (.cells #[.slice none 0 0] 43)) := Below.alloc (Below.refl _ _) (Nat.le_refl _) _
  have s1 := (b1.cell (p := ⟨Bs, 0, none⟩) hB).trans hBs
  have r1 := hr.below b1
  refine (callsIn_wide (n := 6)).1 ?_
  refine callsIn_of_wp_marks Tryz.func85 rfl trivial ?_ rfl
  simp only [Tryz.ntmps85, List.size_toArray, List.length_cons, List.length_nil, Nat.reduceAdd, Nat.reduceSub, Array.replicate_succ, Array.replicate_zero, List.push_toArray, List.append_toArray, List.nil_append, List.cons_append]
  refine wpIn_wide.2 ?_
  go_wp2
  refine (wpIn_wide (n := 6)).1 ?_
  refine wpIn_rangeFunc_ownF rfl (by omega) (gf := 73) (lb := #[.pointer (some ⟨Bs, 0, none⟩)]) rfl trivial (enters_of Tryz.func73 (by kernel_rfl) rfl)
    (vals_stops Fence.wide (6 - 1) trivial rfl (by omega) Bs w.heap.size A cap zs hz hA _ (by simp; omega) s1 r1) (fun h k => KeepN.trans h k) (KeepN.put (by simp)) (Below.refl _ _) (fun _ => rfl)
    (apI w) (fun _ _ _ => False) (apI_own w _ (by simp)) (fun _ _ _ _ _ hs _ _ => hs)
    ⟨⟨_, Blk.new w _ _, ⟨rfl, .inl ⟨rfl, rfl⟩⟩⟩, b1⟩
    (fun y => { tmps := #[.slice none 0 0, .func (.func 73) #[] #[.pointer (some ⟨Bs, 0, none⟩)], .pointer (some ⟨w.heap.size, 0, none⟩), undef, .slice none 0 0, .int .i64 y, .func (.func 73) #[] #[.pointer (some ⟨Bs, 0, none⟩)], .int .i64 y, undef, undef, undef, undef, undef], defers := [] }) ?assign ?body ?done ?stop
  case assign =>
    intro l y W K hK
    gi_wp2
    exact hK
  case body =>
    rintro l pre y W ⟨⟨v, hb, hrow⟩, hbel⟩ hpl
    have hc := hb.cellAt 0 _ rfl
    have hbw := hbel.size
    have zb := hb.lt
    have hb1 := hb.alloc (.cells #[.int .i64 y] 2)
    have hrow1 := hrow.alloc (.cells #[.int .i64 y] 2)
    gi_wp2_with (first
      | (gi_at_builtin; refine wpListIn_append_own _ rfl _ _ 43 rfl (w.heap.size + 1) 2 i0 (.int .i64 0) 1 8 Tryz.underlying43 hi hz0 hz1 hz2 rfl (by decide) _ _ _ rfl hrow1 ⟨W.heap.size, 0, none⟩ 1 1 [.int .i64 y] rfl rfl (cell_one_new _ _ _) (by simp [Value.oneCell']) (by unfold maxLen; omega) (by omega) (by simp; omega) ?_; intro v' w3 hown' hg3' hnil3
         have hg3 : (W.alloc (.cells #[.int .i64 y] 2)).grownBy w3 v.ownBlock := hg3'
         clear hg3'
         obtain ⟨g', c9', rfl, _, _⟩ := own_someI hown' (by omega)
         have hb3 : Blk w3 w.heap.size 43 #[v] := (hg3.block w.heap.size hb1.lt (fun e => by have := (hrow1.lt _ e.symm).1; omega)).trans hb1
         have hc3 := hb3.cellAt 0 _ rfl
         have hf3 := hb3.frozen 0)
      | gi_in)
    have hko : KeepsOthers (W.alloc (.cells #[.int .i64 y] 2)) w3 := KeepsOthers.of_grownBy hg3 fun j o hj ho => by
      rcases hrow1.2 with ⟨rfl, _⟩ | ⟨g, cap2, cur, rfl, _, hgb, _⟩
      · simp [Value.ownBlock] at hj
      · have : g = j := by simpa [Value.ownBlock] using hj
        subst this
        rw [hgb] at ho; cases ho; rfl
    have hkn : KeepN w.heap.size W w3 := fun b hbl => by
      refine (hg3.block b (by simp; omega) fun e => ?_).trans (Below.heap_alloc _ _ b (by omega))
      have := (hrow1.lt b e.symm).1
      omega
    have hbel3 : Below w.heap.size w w3 := (hbel.alloc hbel.size _).grown hg3 (by simp; omega) fun k e => by have := (hrow1.lt k e).1; omega
    refine ⟨((KeepsOthers.alloc _ _).trans hko).trans (KeepsOthers.setCell _ _ _), fun b hbl => (Below.heap_setCell _ _ _ _ (by show b ≠ w.heap.size; omega)).trans (hkn b hbl), ⟨.slice (some ⟨g', 0, none⟩) (pre.length + 1) c9', ?_, ?_⟩, hbel3.setCell (p := ⟨w.heap.size, 0, none⟩) (by show w.heap.size ≤ w.heap.size; omega) (.slice (some ⟨g', 0, none⟩) (pre.length + 1) c9')⟩
    · exact hb3.set_ 0 _
    · have h9 := own_set_far (i := 0) (u := .slice (some ⟨g', 0, none⟩) (pre.length + 1) c9') hown' (show w.heap.size < w.heap.size + 1 by omega)
      simpa [cI] using h9
  case done =>
    rintro D ys W hD rfl ⟨⟨v, hb, hrow⟩, hbel⟩ hK
    have hc := hb.cellAt 0 _ rfl
    (try simp only [World.size_alloc] at hD)
    have hB9 : Below w.heap.size w (W.putObj D (.deferred none)) := hbel.trans (belowK_b (w := w) (Nat.le_refl _) W D _ _ (by omega) hK rfl rfl)
    have hrow9 : (W.putObj D (.deferred none)).ownsRow w.heap.size 2 1 v ys.length (cI ys) := by
      refine own_mono (hrow.kept (grownBy_putObj_a W D (.deferred none)) (ownsRow_ne_a hrow hK (fun cur e => by cases e))) (by omega)
    have Hrow := Lib.hid hrow9
    have Hbel := Lib.hid hB9
    have HK := Lib.hid hK
    clear hK hrow hbel hb hrow9 hB9
    go_wp2
    refine ⟨by simp, .inl ⟨_, _, rfl, run_takeDeferred HK.out, ?_⟩⟩
    exact ⟨_, results_tmp rfl _ _ _, v, rfl, Hrow.out, Hbel.out⟩
  case stop =>
    rintro D c pre W _ _ h _
    exact h.elim
theorem collect_b (Bs : Nat) (A : Option Addr) (cap : Nat) (zs : List Int) (w : World) (hz : zs.length ≤ 1000000) (hB : Bs < w.heap.size) (hBs : w.cell? ⟨Bs, 0, none⟩ = some (.slice A zs.length cap)) (hr : RdI w A zs) :
    Calls Tryz.prog 71 #[.func (.func 73) #[] #[.pointer (some ⟨Bs, 0, none⟩)]] w fun e w' => ∃ v, e = .returned v ∧ w'.ownsRow w.heap.size 2 1 v zs.length (cI zs) ∧ Below w.heap.size w w' := by
  have ca := appendSeq_b Bs A cap zs w hz hB hBs hr
  go_enter Tryz.func71, Tryz.ntmps71
  go_wp2_with fail
  refine ca.mono ?_
  rintro e w1 ⟨v, rfl, hrow, hbel⟩
  go_wp2
  go_ret
  exact ⟨v, rfl, hrow, hbel⟩
end Go.Proofs.YtjgmoffkecnmcaaGreat
namespace Go.Proofs.YtjgmoffkecnmcaaGreat
open Go.RowKit Go.Shelf Go.Lib Go.Sort Go.Maps
set_option linter.unusedSimpArgs false
set_option linter.unusedVariables false
set_option maxRecDepth 20000

/-- In rising order. -/
def upI (xs : List Int) : List Int := xs.mergeSort fun x y => decide (x ≤ y)
theorem upI_len (xs : List Int) : (upI xs).length = xs.length := by simp [upI]
/-- The other ends, but one. -/
def butL (es : List (Int × Int)) (v but : Int) : List Int := (endsL es v).filter fun x => !decide (x = but)

theorem own_block {w : World} {base : Nat} {e : TypeId} {n c g : Nat} {xs : List Int} (h : w.ownsRow base e 1 (.slice (some ⟨g, 0, none⟩) n c) n (cI xs)) :
    ∃ cur, w.heap[g]? = some (.cells cur e (0, 0)) ∧ base ≤ g ∧ n ≤ c ∧ c ≤ maxLen ∧ cur.size = c * 1 ∧ cur.toList.take (n * 1) = cI xs := by
  rcases h.2 with ⟨h1, _⟩ | ⟨g', cap, cur, hv, hge, hh, h6, h7, h8, ht⟩
  · cases h1
  · injection hv with h1 h2 h3
    injection h1 with h1
    injection h1 with h1 _ _
    subst h1; subst h3
    exact ⟨cur, hh, hge, h6, h7, h8, ht⟩
theorem own_holdsI {w : World} {base : Nat} {e : TypeId} {n c g : Nat} {xs : List Int} (h : w.ownsRow base e 1 (.slice (some ⟨g, 0, none⟩) n c) n (cI xs)) : Holds (Value.int .i64) w g 0 xs.toArray := by
  obtain ⟨cur, hB, _, h6, _, h8, ht⟩ := own_block h
  have hl : (cI xs).length = n * 1 := h.1
  intro j hj
  have hj2 : j < xs.length := by simpa using hj
  have hl2 : xs.length = n * 1 := by simpa [cI] using hl
  have hBk : Blk w g e cur := hB
  refine ⟨?_, hBk.frozen _⟩
  rw [Nat.zero_add, hBk.cell]
  have h9 : cur[j]? = (cI xs)[j]? := by rw [← ht, List.getElem?_take_of_lt (by omega), Array.getElem?_toList]
  rw [h9]
  simp [cI, hj2]

theorem ent_others1 : Ent 54 := enters_of Tryz.func54 (by kernel_rfl) rfl
theorem others1_b (B : Nat) (but x : Int) (W : World) (hc : W.cell? ⟨B, 0, none⟩ = some (.int .i64 but)) :
    FnGives Tryz.prog 54 #[.pointer (some ⟨B, 0, none⟩)] #[.int .i64 x] (.bool (decide (x = but))) W := by
  show Calls Tryz.prog 54 #[.int .i64 x, .pointer (some ⟨B, 0, none⟩)] W _
  have h9 : (x == but) = decide (x = but) := by by_cases h : x = but <;> simp [h]
  generalize hq : decide (x = but) = q at *
  clear hq
  go_enter Tryz.func54, Tryz.ntmps54
  go_wp2
  all_goals (go_ret; exact ⟨by simp_all, 0, rfl⟩)
theorem take_pref (F zs : List Int) : (F ++ zs).take F.length = F := by simp
/-- DeleteFunc on a slice that the call owns. -/
theorem delI_b (B : Nat) (but : Int) {w : World} {base g n c : Nat} {xs : List Int} (h : w.ownsRow base 2 1 (.slice (some ⟨g, 0, none⟩) n c) n (cI xs)) (hn : xs.length = n) (h1 : n ≤ 1000000) (hB : B < w.heap.size) (hne : B ≠ g) (hcell : w.cell? ⟨B, 0, none⟩ = some (.int .i64 but)) :
    Calls Tryz.prog 53 #[.slice (some ⟨g, 0, none⟩) n c, .func (.func 54) #[] #[.pointer (some ⟨B, 0, none⟩)]] w fun e w' => e = .returned (.slice (some ⟨g, 0, none⟩) (xs.filter fun x => !decide (x = but)).length c) ∧
      w'.ownsRow base 2 1 (.slice (some ⟨g, 0, none⟩) (xs.filter fun x => !decide (x = but)).length c) (xs.filter fun x => !decide (x = but)).length (cI (xs.filter fun x => !decide (x = but))) ∧ Below base w w' := by
  subst hn
  obtain ⟨cur, hBk, hge, h6, h7, h8, ht⟩ := own_block h
  have hgl : g < w.heap.size := (Array.getElem?_eq_some_iff.1 hBk).1
  have hcon := AnyE.slices_DeleteFunc delInt (Value.int .i64) (fun _ => rfl) (fun x => decide (x = but)) 54 #[.pointer (some ⟨B, 0, none⟩)] ent_others1 0 Tryz.zeroValue2 g 0 c xs.toArray w
    (fun W x hb => others1_b B but x W ((hb.cell (p := ⟨B, 0, none⟩) hB).trans hcell))
    (fun n os dk x _ => others1_b B but x _ (by
      unfold sortWorld
      rw [cell?_grow _ _ _ (by show B < (putRow _ _ _ _ _).heap.size; rw [size_putRow]; exact hB), cell?_putRow_other _ _ g 0 _ _ (Or.inl hne)]
      exact hcell))
    (own_holdsI h) (by simp; omega) (by simpa using h6)
  refine hcon.mono fun e w' hh => ?_
  obtain ⟨he, q, hw⟩ := hh
  refine ⟨he, ?_⟩
  have hfl : (xs.filter fun x => !decide (x = but)).length ≤ xs.length := List.length_filter_le _ _
  have hw2 : w' = grow (putRow encZ (Sort.ahead w q) g 0 ((xs.filter fun x => !decide (x = but)) ++ List.replicate (xs.length - (xs.filter fun x => !decide (x = but)).length) 0).toArray) #[] := by
    rw [hw, grow_empty]; simp
  have hlen : ((xs.filter fun x => !decide (x = but)) ++ List.replicate (xs.length - (xs.filter fun x => !decide (x = but)).length) 0).length = xs.length := by simp; omega
  generalize (List.replicate (xs.length - (xs.filter fun x => !decide (x = but)).length) (0 : Int)) = zs at *
  generalize (xs.filter fun x => !decide (x = but)) = F at *
  have ho := ownsRow_sorted_i (n := q) (os := #[]) (ss := xs) hlen hge hBk h6 h7 h8
  have hg := grownBy_sorted_i (w := w) (g := g) (n := q) (os := #[]) (F ++ zs).toArray
  rw [← hw2] at ho hg
  refine ⟨⟨by simp [cI], .inr ?_⟩, (Below.refl base w).grown hg ?_ (fun k e => by cases e; exact hge)⟩
  · rcases ho.2 with ⟨h9, _⟩ | ⟨g', cap, cur', hv, hge', hh', h6', h7', h8', ht'⟩
    · cases h9
    · injection hv with h9 h10 h11
      injection h9 with h9
      injection h9 with h9 _ _
      subst h9; subst h11
      refine ⟨g, c, cur', rfl, hge', hh', by omega, h7', h8', ?_⟩
      have h12 := congrArg (fun L => L.take F.length) ht'
      simp only [List.take_take, Nat.mul_one] at h12
      rw [Nat.min_eq_left hfl, ← List.map_take, take_pref] at h12
      rw [Nat.mul_one]
      exact h12
  · omega
/-- Sort on a slice that the call owns. -/
theorem sortI_b {w : World} {base g n c : Nat} {xs : List Int} (h : w.ownsRow base 2 1 (.slice (some ⟨g, 0, none⟩) n c) n (cI xs)) (hn : xs.length = n) (h1 : n ≤ 1000000) :
    Calls Tryz.prog 72 #[.slice (some ⟨g, 0, none⟩) n c] w fun e w' => e = .returned (.tuple #[]) ∧
      w'.ownsRow base 2 1 (.slice (some ⟨g, 0, none⟩) n c) n (cI (upI xs)) ∧ Below base w w' := by
  subst hn
  obtain ⟨cur, hBk, hge, h6, h7, h8, ht⟩ := own_block h
  have hgl : g < w.heap.size := (Array.getElem?_eq_some_iff.1 hBk).1
  have hcon := AnyM.slices_Sort_int sortInt g 0 c xs w (own_holdsI h) hgl (by omega)
  refine hcon.mono fun e w' hh => ?_
  obtain ⟨he, q, os, hw⟩ := hh
  refine ⟨he, ?_⟩
  subst hw
  exact ⟨ownsRow_sorted_i (upI_len xs) hge hBk h6 h7 h8, (Below.refl base w).grown (grownBy_sorted_i _) (by omega) (fun k e => by cases e; exact hge)⟩
theorem sorted_b (Bs : Nat) (A : Option Addr) (cap : Nat) (zs : List Int) (w : World) (hp : 0 < zs.length) (hz : zs.length ≤ 1000000) (hB : Bs < w.heap.size) (hBs : w.cell? ⟨Bs, 0, none⟩ = some (.slice A zs.length cap)) (hr : RdI w A zs) :
    Calls Tryz.prog 51 #[.func (.func 73) #[] #[.pointer (some ⟨Bs, 0, none⟩)]] w fun e w' => ∃ g c, e = .returned (.slice (some ⟨g, 0, none⟩) zs.length c) ∧ w'.ownsRow w.heap.size 2 1 (.slice (some ⟨g, 0, none⟩) zs.length c) zs.length (cI (upI zs)) ∧ Below w.heap.size w w' := by
  have ca := collect_b Bs A cap zs w hz hB hBs hr
  have cs := Lib.hid fun (W : World) g c (h : W.ownsRow w.heap.size 2 1 (.slice (some ⟨g, 0, none⟩) zs.length c) zs.length (cI zs)) => sortI_b h rfl hz
  obtain ⟨L, HL⟩ : ∃ L, Hid (zs.length = L) := ⟨_, rfl⟩
  simp only [HL.out] at ca cs hp ⊢
  clear hBs hr hz
  go_enter Tryz.func51, Tryz.ntmps51
  go_wp2_with fail
  refine ca.mono ?_
  rintro e w1 ⟨v, rfl, hrow, hbel⟩
  obtain ⟨g, c, rfl, _, _⟩ := own_someI hrow hp
  have c9 := cs.out w1 g c hrow
  clear ca hrow
  go_wp2_with fail
  refine c9.mono ?_
  rintro e w2 ⟨rfl, hrow2, hb2⟩
  have Hrow2 := Lib.hid hrow2
  have Hb2 := Lib.hid (hbel.trans hb2)
  clear hrow2 hb2 hbel
  go_wp2
  go_ret
  exact ⟨g, c, rfl, Hrow2.out, Hb2.out⟩

set_option maxHeartbeats 4000000 in
theorem othersAt_b (n : Int) (A : Option Addr) (c : Nat) (es : List (Int × Int)) (N : Nat) (v but : Int) (w : World) (hl : es.length ≤ 1000) (hN : N ≤ 1000) (hin : InN N es) (hv : 0 ≤ v ∧ v ≤ 1000) (hp : 0 < (endsL es v).length) (hp2 : 0 < (butL es v but).length) (hr : RdE w A es) :
    Calls Tryz.prog 24 #[.agg #[.int .i64 n, .slice A es.length c], .int .i64 v, .int .i64 but] w fun e w' => ∃ g c', e = .returned (.slice (some ⟨g, 0, none⟩) (butL es v but).length c') ∧ w'.ownsRow w.heap.size 2 1 (.slice (some ⟨g, 0, none⟩) (butL es v but).length c') (butL es v but).length (cI (upI (butL es v but))) ∧ Below w.heap.size w w' := by
  have hmf : ∀ (fn : Fn) (first cap : Array Value) (w : World), (Instr.makeFunc fn first cap).run Tryz.prog w = .ok (.func fn first cap) w := fun _ _ _ _ => rfl
  have ca := Lib.hid fun W (hW : Below w.heap.size w W) => ends_own n A c es N v W (by omega) hN hin hv (hr.below hW)
  obtain ⟨X, HX⟩ : ∃ X, Hid (endsL es v = X) := ⟨_, rfl⟩
  have Hf : Hid ((X.filter fun x => !decide (x = but)) = butL es v but) := by show _ = _; rw [← HX.out]; rfl
  rw [← Hf.out] at hp2 ⊢
  have hX : X.length ≤ 1000 := by rw [← HX.out, endsL_len]; have := atL_len es v; omega
  simp only [HX.out] at ca hp
  obtain ⟨L, HL⟩ : ∃ L, Hid (X.length = L) := ⟨_, rfl⟩
  simp only [HL.out] at ca hp hX
  have hF : (X.filter fun x => !decide (x = but)).length ≤ 1000 := by have := List.length_filter_le (fun x => !decide (x = but)) X; have := HL.out; omega
  have cd := Lib.hid fun (W : World) g c (h : W.ownsRow w.heap.size 2 1 (.slice (some ⟨g, 0, none⟩) L c) L (cI X)) h1 h2 h3 => delI_b (w.heap.size + 1) but h HL.out (by omega) h1 h2 h3
  obtain ⟨F, HF⟩ : ∃ F, Hid ((X.filter fun x => !decide (x = but)) = F) := ⟨_, rfl⟩
  simp only [HF.out] at cd hp2 hF ⊢
  have cs := Lib.hid fun (W : World) Bs Q cap h1 h2 h3 => sorted_b Bs Q cap F W hp2 (by omega) h1 h2 h3
  obtain ⟨K, HK⟩ : ∃ L, Hid (F.length = L) := ⟨_, rfl⟩
  simp only [HK.out] at cd cs hp2 hF ⊢
  clear Hf HF HX hr hin
  generalize es.length = M at *
  go_enter Tryz.func24, Tryz.ntmps24
  have b2 : Below w.heap.size w ((w.alloc (.cells #[.int .i64 n, .slice A M c] 28)).alloc (.cells #[.int .i64 but] 2)) := by (repeat' (first | (with_reducible exact Below.refl _ _) | (with_reducible assumption) | (with_reducible refine Below.alloc ?_ ?_ _) | (with_reducible refine Below.drew ?_) | (with_reducible refine below_drewN ?_ _) | (with_reducible refine Below.setCell ?_ ?_ _) | (with_reducible refine Below.trans ?_ (Below.mono (by assumption) ?_)) | (first | omega | (simp only [World.size_alloc, World.size_setCell, World.size_drew]; omega) | (simp; omega) | (simp; done))))
  have c1 := ca.out _ b2
  have KB := Lib.hid (Blk.new' (n := w.heap.size + 1) (t := 2) (cs := #[.int .i64 but]) (w.alloc (.cells #[.int .i64 n, .slice A M c] 28)) (by simp))
  have zb := KB.out.lt
  clear ca
  go_wp2_with fail
  refine c1.mono ?_
  rintro e w1 ⟨A1, c1', rfl, hown1, hb1⟩
  obtain ⟨g1, c1'', hv1, hg1, hg1'⟩ := own_someI hown1 hp
  injection hv1 with hv5 _ hv6
  subst hv5; subst hv6
  have hB1 : Below w.heap.size w w1 := b2.trans (hb1.mono b2.size)
  have KB1 := KB.out.below hb1 zb
  (try simp only [World.size_alloc] at hg1)
  have c2 := cd.out w1 g1 c1' (own_mono hown1 b2.size) KB1.lt (by omega) (KB1.cellAt 0 _ rfl)
  clear c1 hown1 KB hb1
  have HB1 := Lib.hid hB1
  clear hB1 b2
  go_wp2_with fail
  refine c2.mono ?_
  rintro e w2 ⟨rfl, hown2, hb2⟩
  have HB2 := Lib.hid (HB1.out.trans hb2)
  have Hown2 := Lib.hid hown2
  clear c2 hown2 hb2 HB1
  go_wp2_with fail
  refine (vals_in _ _ _ _).mono ?_
  rintro e w3 ⟨rfl, rfl⟩
  have b3 : Below w2.heap.size w2 (w2.alloc (.cells #[.slice (some ⟨g1, 0, none⟩) K c1'] 43)) := Below.alloc (Below.refl _ _) (Nat.le_refl _) _
  have c3 := cs.out (w2.alloc (.cells #[.slice (some ⟨g1, 0, none⟩) K c1'] 43)) w2.heap.size (some ⟨g1, 0, none⟩) c1' (by simp) ((Blk.new w2 _ _).cellAt 0 _ rfl) ((own_rdI Hown2.out).below b3)
  go_wp2_with fail
  refine c3.mono ?_
  rintro e w4 ⟨g4, c4, rfl, hown4, hb4⟩
  have HB4 := Lib.hid ((HB2.out.trans (b3.mono HB2.out.size)).trans (hb4.mono (by have := HB2.out.size; simp; omega)))
  have Hown4 := Lib.hid (own_mono hown4 (show w.heap.size ≤ _ by have := HB2.out.size; simp; omega))
  clear hown4 hb4 c3 b3
  go_wp2
  go_ret
  exact ⟨g4, c4, rfl, Hown4.out, HB4.out⟩
end Go.Proofs.YtjgmoffkecnmcaaGreat
namespace Go.Proofs.YtjgmoffkecnmcaaGreat
open Go.RowKit
set_option linter.unusedSimpArgs false
set_option linter.unusedVariables false
set_option maxRecDepth 20000

/-- A list of two in rising order. -/
theorem upI_two (x y : Int) : upI [x, y] = [x, y] ∨ upI [x, y] = [y, x] := by
  have hp : (upI [x, y]).Perm [x, y] := List.mergeSort_perm _ _
  have hl := upI_len [x, y]
  match h : upI [x, y], hl with
  | [p, q], _ =>
    rw [h] at hp
    have hm : p ∈ [x, y] := hp.mem_iff.1 (by simp)
    simp only [List.mem_cons, List.not_mem_nil, or_false] at hm
    rcases hm with rfl | rfl
    · left
      have := hp.cons_inv
      simp only [List.singleton_perm_singleton] at this
      rw [this]
    · right
      have h2 : [p, q].Perm [p, x] := hp.trans (List.Perm.swap _ _ _)
      have := h2.cons_inv
      simp only [List.singleton_perm_singleton] at this
      rw [this]
theorem joinC_comm (es : List (Int × Int)) (a b : Int) (k : Nat) : joinC es a b k = joinC es b a k := by
  unfold joinC joinL
  congr 3
  funext j
  unfold isJ
  rw [Int.min_comm, Int.max_comm]
/-- Without the one edge that joins u and v. -/
theorem endW_but {es : List (Int × Int)} {u v : Int} {k : Nat} (hk : k < es.length) (hk1 : onB (es.getD k (0, 0)) u = true) (hk2 : (es.getD k (0, 0)).1 + (es.getD k (0, 0)).2 - u = v) (h : joinN es u v = 1) : endW es u k = butL es u v := by
  unfold endW butL endsL
  rw [List.filter_map]
  congr 1
  have hka : (k : Int) ∈ atL es u := by
    simp only [atL, atTo, nbrTo, List.mem_map, List.mem_filter, List.mem_range]
    exact ⟨k, ⟨hk, hk1⟩, rfl⟩
  have hone : ((atL es u).filter fun a => decide ((es.getD a.toNat (0, 0)).1 + (es.getD a.toNat (0, 0)).2 - u = v)).length = 1 := by
    rw [← h]
    unfold joinN endsL
    rw [List.filter_map, List.length_map]
    rfl
  obtain ⟨x, hx⟩ := List.length_eq_one_iff.1 hone
  have hkx : (k : Int) = x := by
    have : (k : Int) ∈ ((atL es u).filter fun a => decide ((es.getD a.toNat (0, 0)).1 + (es.getD a.toNat (0, 0)).2 - u = v)) := List.mem_filter.2 ⟨hka, by rw [Int.toNat_natCast]; simpa using hk2⟩
    rw [hx] at this
    simpa using this
  refine List.filter_congr fun a ha => ?_
  rw [Bool.eq_iff_iff]
  simp only [decide_eq_true_eq, Function.comp, Bool.not_eq_true', decide_eq_false_iff_not]
  constructor
  · intro hne he
    have : a ∈ ((atL es u).filter fun a => decide ((es.getD a.toNat (0, 0)).1 + (es.getD a.toNat (0, 0)).2 - u = v)) := List.mem_filter.2 ⟨ha, by simpa using he⟩
    rw [hx] at this
    simp only [List.mem_singleton] at this
    exact hne (this.trans hkx.symm)
  · intro hne he
    subst he
    rw [Int.toNat_natCast] at hne
    exact hne hk2
theorem split_len (us : List Int) (b : Int) : (us.filter fun x => !decide (x = b)).length + (us.filter fun v => decide (v = b)).length = us.length := by
  induction us with
  | nil => rfl
  | cons u us ih =>
    by_cases h : u = b
    · simp only [List.filter_cons, h, decide_true, Bool.not_true, if_true, List.length_cons]
      simp only [Bool.false_eq_true, if_false]
      omega
    · simp only [List.filter_cons, h, decide_false, Bool.not_false, if_true, List.length_cons]
      simp only [Bool.false_eq_true, if_false]
      omega
theorem butL_two {n : Int} {es : List (Int × Int)} (hg : isGraphB n es = true) {u v : Int} (hu : inB u 0 (n - 1) = true) (h : joinN es u v = 1) : (butL es u v).length = 2 := by
  have h3 := (ends_three hg hu).2.1
  have h4 := split_len (endsL es u) v
  unfold joinN at h
  unfold butL
  omega
theorem butL_mem {n : Int} {es : List (Int × Int)} (hg : isGraphB n es = true) {u v : Int} (hu : inB u 0 (n - 1) = true) {x : Int} (hx : x ∈ butL es u v) : 0 ≤ x ∧ x < n ∧ x ≠ u ∧ x ≠ v := by
  unfold butL at hx
  rw [List.mem_filter] at hx
  obtain ⟨hx, h2⟩ := hx
  obtain ⟨i, hi, rfl⟩ := List.mem_iff_getElem.1 hx
  have h3 := ends_three hg hu
  have h4 := h3.2.2 i (by rw [← h3.2.1]; exact hi)
  have e : (endsL es u).getD i 0 = (endsL es u)[i] := by simp [List.getD, hi]
  rw [e] at h4
  exact ⟨h4.1, h4.2.1, h4.2.2, by simpa using h2⟩
def cutPr (T : Nat) (pa : List Int) : Int × Int := (frV T 0 (pa.getD 0 0).toNat, frV T 0 (pa.getD 1 0).toNat)
/-- The edges that are left and the two new ones. -/
def cutL (T : Nat) (es : List (Int × Int)) (pa pb : List Int) : List (Int × Int) := woL T 0 es ++ [cutPr T pa, cutPr T pb]
theorem cutL_len (T : Nat) (es : List (Int × Int)) (pa pb : List Int) : (cutL T es pa pb).length = (woL T 0 es).length + 2 := by simp [cutL]
theorem cut_made (T : Nat) (es : List (Int × Int)) {pa pb : List Int} (ha : pa.length = 2) (hb : pb.length = 2) : madeE (cutL T es pa pb) = madeE (cutL T es (upI pa) (upI pb)) := by
  have key : ∀ xs : List Int, xs.length = 2 → mmE (cutPr T xs) = mmE (cutPr T (upI xs)) := by
    intro xs hx
    match xs, hx with
    | [x, y], _ =>
      rcases upI_two x y with h | h
      · rw [h]
      · rw [h]; exact mmE_swap _ _
  refine madeE_congr ?_
  rw [cutL, cutL, List.map_append, List.map_append]
  simp only [List.map_cons, List.map_nil, key pa ha, key pb hb]
  exact .refl _
theorem up_eq {xs : List Int} (h : xs.length = 2) : (upI xs).getD 0 0 = (upI xs).getD 1 0 ↔ xs.getD 0 0 = xs.getD 1 0 := by
  match xs, h with
  | [x, y], _ =>
    rcases upI_two x y with h | h
    · rw [h]
    · rw [h]; exact ⟨Eq.symm, Eq.symm⟩
/-- The cut edge and the code. -/
def badC (es : List (Int × Int)) (u v : Int) : Prop := joinN es u v ≠ 1 ∨ (upI (butL es u v)).getD 0 0 = (upI (butL es u v)).getD 1 0 ∨ (upI (butL es v u)).getD 0 0 = (upI (butL es v u)).getD 1 0
instance (es : List (Int × Int)) (u v : Int) : Decidable (badC es u v) := by unfold badC; infer_instance
def cutV (n : Int) (es : List (Int × Int)) (e : Int) : Int × List (Int × Int) × Int :=
  if isGraphB n es = false then (0, [], 1) else if inB e 0 ((es.length : Int) - 1) = false then (0, [], 2)
  else if badC es (es.getD e.toNat (0, 0)).1 (es.getD e.toNat (0, 0)).2 then (0, [], 5)
  else (n - 2, madeE (cutL (setN [(es.getD e.toNat (0, 0)).1, (es.getD e.toNat (0, 0)).2]) es (upI (butL es (es.getD e.toNat (0, 0)).1 (es.getD e.toNat (0, 0)).2)) (upI (butL es (es.getD e.toNat (0, 0)).2 (es.getD e.toNat (0, 0)).1))), 0)
theorem lenCut (n : Int) (es : List (Int × Int)) (e : Int) (h : es.length ≤ 1048576) : (cutV n es e).2.1.length ≤ 1048576 := by
  by_cases hg : isGraphB n es = true
  · have := isGraphB_len hg
    unfold cutV
    split
    · simp
    · split
      · simp
      · split
        · simp
        · rw [madeE_len, cutL_len]
          have := woL_len (setN [(es.getD e.toNat (0, 0)).1, (es.getD e.toNat (0, 0)).2]) 0 es
          omega
  · unfold cutV
    rw [if_pos (by simpa using hg)]
    simp
end Go.Proofs.YtjgmoffkecnmcaaGreat
namespace Go.Proofs.YtjgmoffkecnmcaaGreat
open Go.RowKit Go.Lib
set_option linter.unusedSimpArgs false
set_option linter.unusedVariables false
set_option maxRecDepth 20000

theorem own_nilI (w : World) (base : Nat) (e : TypeId) : w.ownsRow base e 1 (.slice none 0 0) 0 (cI []) := ⟨rfl, .inl ⟨rfl, rfl⟩⟩
open Go.Maps in
/-- Append of ints that can be read to a slice that the call owns. -/
theorem wp_appendI {o : Oper} {a : Act} {K : Act → World → Prop} {Q : Exit → Act → World → Prop} {w : World} {s x : Operand}
    (ho : o.op = .call { callee := .builtin .append, args := #[s, x], argTypes := #[43, 43] })
    (base : Nat) (v : Value) (n : Nat) (es : List Int) (hs : a.eval s = v) (hown : w.ownsRow base 2 1 v n (cI es))
    (b off m c : Nat) (news : List Int) (hx : a.eval x = .slice (some ⟨b, off, none⟩) m c) (hm : news.length = m) (hy : RdI w (some ⟨b, off, none⟩) news) (hn : n ≤ 1000000) (hm2 : m ≤ 1000000) (hbase : base ≤ w.heap.size)
    (h : ∀ v' w', w'.ownsRow base 2 1 v' (n + m) (cI (es ++ news)) → (∀ B w0, B ≤ base → Below B w0 w → Below B w0 w') → w.grownBy w' v.ownBlock → K (a.put o.dst v') w') : o.wp Tryz.prog a w K Q := by
  obtain ⟨i0, hi0, hz0, hz1, hz2⟩ := info_parts infoI
  have hcell : ∀ j u, (cI news)[j]? = some u → w.cell? ((⟨b, off, none⟩ : Addr).add j) = some u := fun j u hj => by
    have hj2 : j < news.length := by have := (List.getElem?_eq_some_iff.1 hj).1; simpa [cI] using this
    obtain ⟨b2, off2, e, hb, hc⟩ := hy.pos (by omega)
    injection e with e
    injection e with e1 e2 _
    subst e1; subst e2
    rw [getD_cI news j hj2] at hj
    injection hj with hj
    subst hj
    rw [Addr.add_lit]
    exact hc j hj2
  refine wp_append_own w s x _ ho base 2 i0 (.int .i64 0) 1 8 Tryz.underlying43 hi0 hz0 hz1 hz2 rfl (by decide) v n (cI es) hs hown ⟨b, off, none⟩ m c (cI news) hx (by simp [cI, hm]) hcell ?_ (by unfold maxLen; omega) (by omega) hbase ?_
  · intro u hu; simp only [cI, List.mem_map] at hu; obtain ⟨z, _, rfl⟩ := hu; rfl
  · intro v' w' h1 h2 _
    have h3 : cI es ++ cI news = cI (es ++ news) := by simp [cI]
    rw [h3] at h1
    exact h v' w' h1 (fun B w0 hB hb => hb.trans (own_grown_below (Below.refl _ _) (own_mono hown hB) h2 (Nat.le_trans hB hbase))) h2
theorem wpList_appendI {ops : Array Oper} {rest : List Oper} {o : Oper} {a : Act} {Q : Exit → Act → World → Prop} {w : World} {s x : Operand} (hgd : o.guard = none)
    (ho : o.op = .call { callee := .builtin .append, args := #[s, x], argTypes := #[43, 43] })
    (base : Nat) (v : Value) (n : Nat) (es : List Int) (hs : a.eval s = v) (hown : w.ownsRow base 2 1 v n (cI es))
    (b off m c : Nat) (news : List Int) (hx : a.eval x = .slice (some ⟨b, off, none⟩) m c) (hm : news.length = m) (hy : RdI w (some ⟨b, off, none⟩) news) (hn : n ≤ 1000000) (hm2 : m ≤ 1000000) (hbase : base ≤ w.heap.size)
    (h : ∀ v' w', w'.ownsRow base 2 1 v' (n + m) (cI (es ++ news)) → (∀ B w0, B ≤ base → Below B w0 w → Below B w0 w') → w.grownBy w' v.ownBlock → wpList Tryz.prog ops Q rest (a.put o.dst v') w') : wpList Tryz.prog ops Q (o :: rest) a w :=
  wpList_plain hgd fun K hK => wp_appendI ho base v n es hs hown b off m c news hx hm hy hn hm2 hbase fun v' w' h1 h2 h3 => hK _ _ (h v' w' h1 h2 h3)
set_option maxHeartbeats 4000000 in
theorem growI_b (n : Nat) (w : World) (hn : n ≤ 100000) :
    Calls Tryz.prog 63 #[.slice none 0 0, .int .i64 n] w fun e w' => ∃ A c', e = .returned (.slice A 0 c') ∧ w'.ownsRow w.heap.size 2 1 (.slice A 0 c') 0 (cI []) ∧ Below w.heap.size w w' := by
  rcases Nat.eq_zero_or_pos n with h0 | hpos
  · subst h0
    go_enter Tryz.func63, Tryz.ntmps63
    go_wp2
    go_ret
    exact ⟨none, 0, rfl, own_nilI _ _ _, Below.refl _ _⟩
  · obtain ⟨i0, hi0, hz0, hz1, hz2⟩ := info_parts infoI
    have hrz : ∀ ty, (Builtin.append_ #[43, 3] ty #[.slice none 0 0, .int .i64 (n : Int)]).run Tryz.prog w =
        .ok (.slice (some ⟨w.heap.size, 0, none⟩) n (grownCap w n 0 2)) (w.drew.alloc (.cells (#[] ++ Builtin.zeroCells (Value.cells (.int .i64 0)) n ++ Builtin.zeroCells (Value.cells (.int .i64 0)) (grownCap w n 0 2 - n)) 2)) := fun ty => by
      have h := run_append_grow_zeros w 43 3 ty 2 i0 (.int .i64 0) .i64 .i64 Tryz.underlying43 Tryz.underlying3 hi0 hz0 none 0 0 [] (run_firstCells_none _ _ _ _ _) n hpos (by omega) (by omega) (by omega) (by rw [hz2]; omega) (growslice_fits (by omega) (by rw [hz2]; omega))
      simpa using h
    have hG := grownCap_ge w n 0 2
    have hG2 := grownCap_le_maxLen w n 0 2 (by unfold maxLen; omega)
    obtain ⟨G, HG⟩ : ∃ G, Hid (grownCap w n 0 2 = G) := ⟨_, rfl⟩
    rw [HG.out] at hrz hG hG2
    have hGp : 0 < G := by omega
    have hGm : G ≤ 9223372036854775807 := by unfold maxLen at hG2; omega
    have Hg := Lib.hid hG2
    have hn0 : ¬ ((n : Int) < 0) := by omega
    have hn1 : (n : Int) > 0 := by omega
    clear hi0 hz0 hz1 hz2 hG2
    have hsz : (#[] ++ Builtin.zeroCells (Value.cells (.int .i64 0)) n ++ Builtin.zeroCells (Value.cells (.int .i64 0)) (G - n)).size = G * 1 := by
      rw [Array.size_append, Array.size_append, size_zeroCells, size_zeroCells]
      show 0 + n * 1 + (G - n) * 1 = G * 1
      omega
    generalize (#[] ++ Builtin.zeroCells (Value.cells (.int .i64 0)) n ++ Builtin.zeroCells (Value.cells (.int .i64 0)) (G - n)) = cs at *
    have Hcz := Lib.hid hsz
    clear hsz
    go_enter Tryz.func63, Tryz.ntmps63
    go_wp2_with (at_builtin; refine Lib.wpList_append_run _ rfl _ _ _ _ rfl _ _ rfl rfl _ _ (hrz _) ?_)
    go_ret
    refine ⟨some ⟨w.heap.size, 0, none⟩, G, rfl, ⟨rfl, .inr ⟨w.heap.size, G, cs, rfl, Nat.le_refl _, ?_, Nat.zero_le _, Hg.out, Hcz.out, by simp [cI]⟩⟩, by (repeat' (first | (with_reducible exact Below.refl _ _) | (with_reducible assumption) | (with_reducible refine Below.alloc ?_ ?_ _) | (with_reducible refine Below.drew ?_) | (with_reducible refine below_drewN ?_ _) | (with_reducible refine Below.setCell ?_ ?_ _) | (with_reducible refine Below.trans ?_ (Below.mono (by assumption) ?_)) | (first | omega | (simp only [World.size_alloc, World.size_setCell, World.size_drew]; omega) | (simp; omega) | (simp; done))))⟩
    exact Blk.new' (n := w.heap.size) _ rfl

/-- How much stands behind k slices. -/
def pre2I (es hs : List Int) (k : Nat) : List Int := if k = 0 then [] else if k = 1 then es else es ++ hs
set_option maxHeartbeats 4000000 in
theorem concatI_b (g c A1c A2c : Nat) (A1 A2 : Option Addr) (es hs : List Int) (w : World) (h1 : 0 < es.length) (h2 : 0 < hs.length) (hl1 : es.length ≤ 1000) (hl2 : hs.length ≤ 1000) (hg : Blk w g 43 #[.slice A1 es.length A1c, .slice A2 hs.length A2c]) (hr1 : RdI w A1 es) (hr2 : RdI w A2 hs) :
    Calls Tryz.prog 41 #[.slice (some ⟨g, 0, none⟩) 2 c] w fun e w' => ∃ A c', e = .returned (.slice A (es.length + hs.length) c') ∧ w'.ownsRow w.heap.size 2 1 (.slice A (es.length + hs.length) c') (es.length + hs.length) (cI (es ++ hs)) ∧ Below w.heap.size w w' := by
  obtain ⟨b1, o1, rfl, hb1, _⟩ := hr1.pos h1
  obtain ⟨b2, o2, rfl, hb2, _⟩ := hr2.pos h2
  have Hr1 := Lib.hid hr1
  have Hr2 := Lib.hid hr2
  have Hg := Lib.hid hg
  obtain ⟨L, HL⟩ : ∃ L, Hid (es.length = L) := ⟨_, rfl⟩
  obtain ⟨M, HM⟩ : ∃ L, Hid (hs.length = L) := ⟨_, rfl⟩
  have hc0 := hg.cellAt 0 _ rfl
  have hc1 := hg.cellAt 1 _ rfl
  rw [HL.out] at hl1 hc0 ⊢
  rw [HM.out] at hl2 hc1 ⊢
  rw [HL.out, HM.out] at Hg
  have Hlm : Hid (L ≤ 1000 ∧ M ≤ 1000) := ⟨hl1, hl2⟩
  have cg := growI_b (L + M) w (by omega)
  rw [Int.natCast_add] at cg
  have cg := Lib.hid cg
  have zg := hg.lt
  clear hr1 hr2 hg h1 h2
  go_enter Tryz.func41, Tryz.ntmps41
  go_wp2
  go_loopw [3, 11] (fun z i wr => ∃ k : Nat, k ≤ 2 ∧ i = .int .i64 k ∧ z = .int .i64 ((if k = 0 then 0 else if k = 1 then L else L + M : Nat) : Int) ∧ w = wr) (fun _ i _ => 2 - (intOf i).toNat)
  case atStart => exact ⟨0, by omega, rfl, rfl, rfl⟩
  case round =>
    obtain ⟨k, hk, rfl, rfl, rfl⟩ := hrel
    by_cases hk0 : k = 0
    · subst hk0
      go_wp2
      exact ⟨⟨1, by omega, by go_num, by simp, trivial⟩, by simp [intOf]⟩
    · by_cases hk1 : k = 1
      · subst hk1
        go_wp2
        exact ⟨⟨2, by omega, by go_num, by simp, trivial⟩, by simp [intOf]⟩
      · obtain rfl : k = 2 := by omega
        go_wp2_with fail
        refine cg.out.mono ?_
        rintro e w1 ⟨A3, c3, rfl, hown1, hb1⟩
        have Ho1 := Lib.hid hown1
        have Hb1 := Lib.hid hb1
        clear hown1 hb1 hc0 hc1 cg hk0 hk1
        go_wp2_with fail
        go_loopw [6, 27] (fun s i wr => ∃ k : Nat, k ≤ 2 ∧ i = .int .i64 k ∧ Hid (wr.ownsRow w.heap.size 2 1 s (pre2I es hs k).length (cI (pre2I es hs k))) ∧ Hid (Below w.heap.size w wr)) (fun _ i _ => 2 - (intOf i).toNat)
        case atStart => exact ⟨0, by omega, rfl, Ho1, Hb1⟩
        case round =>
          clear Ho1 Hb1
          obtain ⟨k, hk, rfl, Hown, Hbel⟩ := hrel
          obtain ⟨A4, c4, rfl⟩ := own_form Hown.out
          have hsz := Hbel.out.size
          have K := Hg.out.below Hbel.out zg
          have hd0 := K.cellAt 0 _ rfl
          have hd1 := K.cellAt 1 _ rfl
          have hlm := Hlm.out
          have hr1 := Hr1.out.below Hbel.out
          have hr2 := Hr2.out.below Hbel.out
          clear K
          by_cases hk0 : k = 0
          · subst hk0
            go_wp2_with (first
              | (at_builtin; refine wpList_appendI rfl rfl w.heap.size _ 0 [] rfl Hown.out b1 o1 L A1c es rfl HL.out hr1 (by omega) (by omega) hsz ?_))
            intro v3 w3 hown3 hfr3 _
            obtain ⟨A5, c5, rfl⟩ := own_form hown3
            have Hb3 : Hid (Below w.heap.size w w3) := hfr3 w.heap.size w (Nat.le_refl _) Hbel.out
            have Hown3 : Hid (w3.ownsRow w.heap.size 2 1 (.slice A5 L c5) (pre2I es hs 1).length (cI (pre2I es hs 1))) := by
              show World.ownsRow _ _ _ _ _ _ _
              have e1 : pre2I es hs 1 = es := rfl
              rw [e1, HL.out]
              exact hown3
            clear hown3 hfr3 Hown Hbel hd0 hd1 hr1 hr2
            go_wp2
            exact ⟨⟨1, by omega, by go_num, Hown3, Hb3⟩, by simp [intOf]⟩
          · by_cases hk1 : k = 1
            · subst hk1
              have Ho2 : Hid (wr.ownsRow w.heap.size 2 1 (.slice A4 L c4) L (cI es)) := by
                have h := Hown.out
                have e1 : pre2I es hs 1 = es := rfl
                rw [e1, HL.out] at h
                exact h
              have e2 : (pre2I es hs 1).length = L := HL.out
              simp only [e2]
              clear e2
              go_wp2_with (first
                | (at_builtin; refine wpList_appendI rfl rfl w.heap.size _ L es rfl Ho2.out b2 o2 M A2c hs rfl HM.out hr2 (by omega) (by omega) hsz ?_))
              intro v3 w3 hown3 hfr3 _
              obtain ⟨A5, c5, rfl⟩ := own_form hown3
              have Hb3 : Hid (Below w.heap.size w w3) := hfr3 w.heap.size w (Nat.le_refl _) Hbel.out
              have Hown3 : Hid (w3.ownsRow w.heap.size 2 1 (.slice A5 (L + M) c5) (pre2I es hs 2).length (cI (pre2I es hs 2))) := by
                show World.ownsRow _ _ _ _ _ _ _
                have e1 : pre2I es hs 2 = es ++ hs := rfl
                rw [e1, List.length_append, HL.out, HM.out]
                exact hown3
              clear hown3 hfr3 Hown Ho2 Hbel hd0 hd1 hr1 hr2 hk0
              go_wp2
              exact ⟨⟨2, by omega, by go_num, Hown3, Hb3⟩, by simp [intOf]⟩
            · obtain rfl : k = 2 := by omega
              have Ho2 : Hid (wr.ownsRow w.heap.size 2 1 (.slice A4 (L + M) c4) (L + M) (cI (es ++ hs))) := by
                have h := Hown.out
                have e1 : pre2I es hs 2 = es ++ hs := rfl
                rw [e1, List.length_append, HL.out, HM.out] at h
                exact h
              have e2 : (pre2I es hs 2).length = L + M := by show (es ++ hs).length = _; rw [List.length_append, HL.out, HM.out]
              simp only [e2]
              clear e2 hk0 hk1 hd0 hd1 hr1 hr2
              go_wp2
              go_ret
              exact ⟨A4, c4, rfl, Ho2.out, Hbel.out⟩
end Go.Proofs.YtjgmoffkecnmcaaGreat
namespace Go.Proofs.YtjgmoffkecnmcaaGreat
open Go.RowKit
set_option linter.unusedSimpArgs false
set_option linter.unusedVariables false
set_option maxRecDepth 20000

/-- The edges but two. -/
def dotK (es : List (Int × Int)) (e f : Int) (k : Nat) : List (Int × Int) := ((List.range k).filter fun i : Nat => decide ((i : Int) ≠ e) && decide ((i : Int) ≠ f)).map fun i => es.getD i (0, 0)
theorem dotK_succ (es : List (Int × Int)) (e f : Int) (k : Nat) : dotK es e f (k + 1) = if (decide ((k : Int) ≠ e) && decide ((k : Int) ≠ f)) = true then dotK es e f k ++ [es.getD k (0, 0)] else dotK es e f k := by
  unfold dotK
  rw [List.range_succ, List.filter_append, List.map_append]
  by_cases h : (decide ((k : Int) ≠ e) && decide ((k : Int) ≠ f)) = true
  · rw [if_pos h]; congr 1; simp only [List.filter_cons, List.filter_nil, h, if_true, List.map_cons, List.map_nil]
  · rw [if_neg h]; simp only [List.filter_cons, List.filter_nil, h, List.map_nil]; simp
theorem dotK_len (es : List (Int × Int)) (e f : Int) (k : Nat) : (dotK es e f k).length ≤ k := by
  unfold dotK
  rw [List.length_map]
  have := List.length_filter_le (fun i : Nat => decide ((i : Int) ≠ e) && decide ((i : Int) ≠ f)) (List.range k)
  rw [List.length_range] at this
  exact this
/-- The four edges between the two parts. -/
def dotQ (T : Nat) (f : Int) (one two : Int × Int) (vs : List Int) (k : Nat) : List (Int × Int) := ([(one.1, frV T f (vs.getD 0 0).toNat), (one.2, frV T f (vs.getD 1 0).toNat), (two.1, frV T f (vs.getD 2 0).toNat), (two.2, frV T f (vs.getD 3 0).toNat)] : List (Int × Int)).take k
def dotB (n : Int) (es : List (Int × Int)) (e f : Int) (hs : List (Int × Int)) (T : Nat) : List (Int × Int) := dotK es e f es.length ++ woL T n hs
def dotL (n : Int) (es : List (Int × Int)) (e f : Int) (hs : List (Int × Int)) (a b : Int) : List (Int × Int) :=
  dotB n es e f hs (setN [a, b]) ++ dotQ (setN [a, b]) n (es.getD e.toNat (0, 0)) (es.getD f.toNat (0, 0)) (upI (butL hs a b) ++ upI (butL hs b a)) 4
theorem dotL_len (n : Int) (es : List (Int × Int)) (e f : Int) (hs : List (Int × Int)) (a b : Int) : (dotL n es e f hs a b).length ≤ es.length + hs.length + 4 ∧ 0 < (dotL n es e f hs a b).length := by
  have h1 := dotK_len es e f es.length
  have h2 := woL_len (setN [a, b]) n hs
  unfold dotL dotB dotQ
  simp only [List.length_append, List.take_succ_cons, List.take_zero, List.length_cons, List.length_nil]
  omega
/-- Edges are left behind when the ends of an edge are taken out. -/
theorem incl_excl (es : List (Int × Int)) (p q : Int × Int → Bool) : (es.filter fun e => p e || q e).length + (es.filter fun e => p e && q e).length = (es.filter p).length + (es.filter q).length := by
  induction es with
  | nil => rfl
  | cons e es ih =>
    cases hp : p e <;> cases hq : q e <;> simp only [List.filter_cons, hp, hq, Bool.or_true, Bool.true_or, Bool.false_or, Bool.or_false, Bool.and_true, Bool.true_and, Bool.and_false, Bool.false_and, Bool.or_self, Bool.and_self, Bool.false_eq_true, if_true, if_false, List.length_cons] <;> omega
theorem dot_pos {m : Int} {hs : List (Int × Int)} (hg : isGraphB m hs = true) {a b : Int} (ha : inB a 0 (m - 1) = true) (hb : inB b 0 (m - 1) = true) (hab : a ≠ b) (hj : joinN hs a b = 1) (f : Int) : 0 < (woL (setN [a, b]) f hs).length := by
  have ba := inB_true.1 ha
  have bb := inB_true.1 hb
  have h2 := butL_two hg ha hj
  obtain ⟨x, hx⟩ : ∃ x, x ∈ butL hs a b := by
    match h : butL hs a b, h2 with
    | x :: _, _ => exact ⟨x, by simp⟩
  have hxm := butL_mem hg ha hx
  have hg2 := hg
  simp only [isGraphB, Bool.and_eq_true] at hg2
  have h5 := areEdgesB_in hg2.1
  have c1 := (ends_three hg ha).1
  have c2 := (ends_three hg hb).1
  rw [atL_count] at c1 c2
  have hie := incl_excl hs (fun e => onB e a) (fun e => onB e b)
  have hboth : 0 < (hs.filter fun e => onB e a && onB e b).length := by
    unfold joinN at hj
    rw [endsL_map, List.filter_map, List.filter_filter, List.length_map] at hj
    obtain ⟨e, he⟩ := List.exists_mem_of_length_pos (by omega : 0 < (hs.filter fun e => ((fun v => decide (v = b)) ∘ fun e : Int × Int => e.1 + e.2 - a) e && onB e a).length)
    rw [List.mem_filter] at he
    refine List.length_pos_of_mem (a := e) (List.mem_filter.2 ⟨he.1, ?_⟩)
    have h9 := he.2
    simp only [Function.comp, Bool.and_eq_true, decide_eq_true_eq, onB, Bool.or_eq_true] at h9 ⊢
    omega
  have hsp := filter_split hs fun e => onB e a || onB e b
  have hlen := h5.2.2.1
  have hev := h5.2.1
  unfold woL
  rw [List.length_map]
  have he : (hs.filter fun e => !hasS (setN [a, b]) e) = hs.filter fun e => !(onB e a || onB e b) := by
    refine List.filter_congr fun e he => ?_
    obtain ⟨p, q, rfl, hp, hq, hpq⟩ := mem_in hg he
    simp only [hasS, Int.toNat_natCast, setN_bit (xs := [a, b]) (by simp; omega), onB]
    rw [Bool.eq_iff_iff]
    simp only [Bool.not_eq_true', Bool.or_eq_false_iff, decide_eq_false_iff_not, List.mem_cons, List.not_mem_nil, or_false]
    omega
  rw [he]
  omega
/-- The dot product and the code. -/
def badD (es : List (Int × Int)) (e f : Int) (hs : List (Int × Int)) (a b : Int) : Prop := nearB (es.getD e.toNat (0, 0)) (es.getD f.toNat (0, 0)) = true ∨ joinN hs a b ≠ 1
instance (es : List (Int × Int)) (e f : Int) (hs : List (Int × Int)) (a b : Int) : Decidable (badD es e f hs a b) := by unfold badD; infer_instance
def inD (es : List (Int × Int)) (e f m a b : Int) : Bool := inB e 0 ((es.length : Int) - 1) && (inB f 0 ((es.length : Int) - 1) && (inB a 0 (m - 1) && inB b 0 (m - 1)))
def dotV (n : Int) (es : List (Int × Int)) (e f m : Int) (hs : List (Int × Int)) (a b : Int) : Int × List (Int × Int) × Int :=
  if (isGraphB n es && isGraphB m hs) = false then (0, [], 1) else if inD es e f m a b = false then (0, [], 2)
  else if badD es e f hs a b then (0, [], 5) else limV (n + m - 2) (dotL n es e f hs a b)
theorem dotV_g {n e f m a b : Int} {es hs : List (Int × Int)} (h : (isGraphB n es && isGraphB m hs) = false) : dotV n es e f m hs a b = (0, [], 1) := by
  unfold dotV; rw [if_pos h]
theorem dotV_e {n e f m a b : Int} {es hs : List (Int × Int)} (h1 : (isGraphB n es && isGraphB m hs) = true) (h : inD es e f m a b = false) : dotV n es e f m hs a b = (0, [], 2) := by
  unfold dotV; rw [if_neg (by rw [h1]; decide), if_pos h]
theorem dotV_s {n e f m a b : Int} {es hs : List (Int × Int)} (h1 : (isGraphB n es && isGraphB m hs) = true) (h2 : inD es e f m a b = true) (h : badD es e f hs a b) : dotV n es e f m hs a b = (0, [], 5) := by
  unfold dotV; rw [if_neg (by rw [h1]; decide), if_neg (by rw [h2]; decide)]; exact if_pos h
theorem dotV_y {n e f m a b : Int} {es hs : List (Int × Int)} (h1 : (isGraphB n es && isGraphB m hs) = true) (h2 : inD es e f m a b = true) (h : ¬ badD es e f hs a b) : dotV n es e f m hs a b = limV (n + m - 2) (dotL n es e f hs a b) := by
  unfold dotV; rw [if_neg (by rw [h1]; decide), if_neg (by rw [h2]; decide)]; exact if_neg h
theorem lenDot (n : Int) (es : List (Int × Int)) (e f m : Int) (hs : List (Int × Int)) (a b : Int) (h1 : es.length ≤ 1048576) (h2 : hs.length ≤ 1048576) : (dotV n es e f m hs a b).2.1.length ≤ 1048576 := by
  by_cases hg : (isGraphB n es && isGraphB m hs) = true
  · have hg2 := hg
    rw [Bool.and_eq_true] at hg2
    have l1 := isGraphB_len hg2.1
    have l2 := isGraphB_len hg2.2
    by_cases he : inD es e f m a b = true
    · by_cases hbd : badD es e f hs a b
      · rw [dotV_s hg he hbd]; simp
      · rw [dotV_y hg he hbd]
        have h3 := limV_len (n + m - 2) (dotL n es e f hs a b)
        have h4 := (dotL_len n es e f hs a b).1
        omega
    · rw [dotV_e hg (by simpa using he)]; simp
  · rw [dotV_g (by simpa using hg)]; simp
end Go.Proofs.YtjgmoffkecnmcaaGreat
