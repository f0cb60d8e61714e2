/- Shrunk triangles: the plain law. No statement of the program is proved here. -/
import Derived.Test.YtjgmoffkecnmcaaGreatSr1
namespace Go.Proofs.YtjgmoffkecnmcaaGreat
open Go.RowKit
set_option linter.unusedSimpArgs false
set_option linter.unusedVariables false
set_option maxRecDepth 20000

/-- A set without one of its members. -/
def outS (T l : Nat) : Nat := T &&& (18446744073709551615 - 2 ^ l)
theorem outS_bit {T l i : Nat} (hl : l < 64) (hi : i < 64) : (outS T l).testBit i = (T.testBit i && !decide (i = l)) := by
  have h1 : 18446744073709551615 - 2 ^ l = 2 ^ 64 - (2 ^ l + 1) := by omega
  have h2 : 2 ^ l < 2 ^ 64 := Nat.pow_lt_pow_right (by decide) hl
  rw [outS, Nat.testBit_and, h1, Nat.testBit_two_pow_sub_succ h2, pow_bit]
  simp [hi]
theorem outS_lt {T l : Nat} (h : T < 2 ^ 63) : outS T l < 2 ^ 63 := Nat.lt_of_le_of_lt Nat.and_le_left h
/-- Numbers from the least vertex on come back up. -/
def fixV (l : Nat) (x : Int) : Int := if x ≥ (l : Int) then x + 1 else x
theorem shC_low {T l : Nat} (h : ∀ i, i < l → T.testBit i = false) : ∀ v, v ≤ l → shC T v = 0 := by
  intro v
  induction v with
  | zero => intro _; simp [shC]
  | succ v ih => intro hv; rw [shC_next, ih (by omega), h v (by omega)]; rfl
theorem shC_out {T l : Nat} (hl : l < 60) (h : ∀ i, i < l → T.testBit i = false) (hT : T.testBit l = true) : ∀ d, l + 1 + d ≤ 60 → shC T (l + 1 + d) = shC (outS T l) (l + 1 + d) + 1 ∧ shC T (l + 1 + d) + l ≤ l + 1 + d := by
  have hO : ∀ i, i < l → (outS T l).testBit i = false := fun i hi => by rw [outS_bit (by omega) (by omega), h i hi]; rfl
  intro d
  induction d with
  | zero =>
    intro _
    rw [Nat.add_zero, shC_next, shC_next, shC_low h l (Nat.le_refl _), shC_low hO l (Nat.le_refl _), hT, outS_bit (by omega) (by omega), hT]
    simp
    omega
  | succ d ih =>
    intro hd
    obtain ⟨h1, h2⟩ := ih (by omega)
    rw [show l + 1 + (d + 1) = (l + 1 + d) + 1 by omega, shC_next T, shC_next (outS T l), h1, outS_bit (by omega) (by omega)]
    have hne : ¬ (l + 1 + d = l) := by omega
    rw [h1] at h2
    cases hb : T.testBit (l + 1 + d)
    · simp; omega
    · simp [hne]; omega
/-- The new number of a vertex outside. -/
theorem fix_fr {T l v : Nat} (hl : l < 60) (h : ∀ i, i < l → T.testBit i = false) (hT : T.testBit l = true) (hv : T.testBit v = false) (h60 : v ≤ 60) : fixV l (frV T 0 v) = frV (outS T l) 0 v := by
  have hO : ∀ i, i < l → (outS T l).testBit i = false := fun i hi => by rw [outS_bit (by omega) (by omega), h i hi]; rfl
  unfold fixV frV
  by_cases h1 : v ≤ l
  · have h2 : v ≠ l := by intro e; subst e; rw [hT] at hv; cases hv
    rw [shC_low h v h1, shC_low hO v h1, if_neg (by omega)]
  · obtain ⟨d, rfl⟩ : ∃ d, v = l + 1 + d := ⟨v - l - 1, by omega⟩
    obtain ⟨h3, h4⟩ := shC_out hl h hT d h60
    rw [if_pos (by omega), h3]
    omega
theorem fr_least {T l : Nat} (hl : l < 60) (h : ∀ i, i < l → T.testBit i = false) : frV (outS T l) 0 l = l := by
  have hO : ∀ i, i < l → (outS T l).testBit i = false := fun i hi => by rw [outS_bit (by omega) (by omega), h i hi]; rfl
  unfold frV
  rw [shC_low hO l (Nat.le_refl _)]
  omega

/-- Both ends in the set. -/
def inS2 (T : Nat) (e : Int × Int) : Bool := T.testBit e.1.toNat && T.testBit e.2.toNat
/-- The edge, its ends in the set at the least vertex. -/
def trE (T l : Nat) (e : Int × Int) : Int × Int := (frV (outS T l) 0 (if T.testBit e.1.toNat = true then l else e.1.toNat), frV (outS T l) 0 (if T.testBit e.2.toNat = true then l else e.2.toNat))
/-- The program's edges. -/
def trL (T l : Nat) (es : List (Int × Int)) : List (Int × Int) := (es.filter fun e => !inS2 T e).map (trE T l)
theorem trL_snoc (T l : Nat) (es : List (Int × Int)) (e : Int × Int) : trL T l (es ++ [e]) = if inS2 T e = true then trL T l es else trL T l es ++ [trE T l e] := by
  unfold trL
  rw [List.filter_append, List.map_append]
  cases h : inS2 T e <;> simp [h]
theorem trL_len (T l : Nat) (es : List (Int × Int)) : (trL T l es).length ≤ es.length := by
  unfold trL; rw [List.length_map]; exact List.length_filter_le _ _

/-- The ends of the edges at x that lie outside. -/
def outL (T : Nat) (us : List Int) : List Int := us.filter fun u => !T.testBit u.toNat
def tsE (T l : Nat) (u : Int) : Int × Int := ((l : Int), fixV l (numV T 0 u.toNat))
/-- The reference's edges from one vertex of the triangle. -/
def ts1 (T l : Nat) (us : List Int) : List (Int × Int) := (outL T us).map (tsE T l)
theorem ts1_snoc (T l : Nat) (us : List Int) (u : Int) : ts1 T l (us ++ [u]) = if T.testBit u.toNat = true then ts1 T l us else ts1 T l us ++ [tsE T l u] := by
  unfold ts1 outL
  rw [List.filter_append, List.map_append]
  cases h : T.testBit u.toNat <;> simp [h]
theorem ts1_len (T l : Nat) (us : List Int) : (ts1 T l us).length ≤ us.length := by
  unfold ts1 outL; rw [List.length_map]; exact List.length_filter_le _ _
/-- The reference's edges: those outside, then those from the triangle. -/
def tsB (T l : Nat) (es : List (Int × Int)) : List (Int × Int) := (woL T 0 es).map fun e => (fixV l e.1, fixV l e.2)
def tsL (T l : Nat) (es : List (Int × Int)) (vs : List Int) : List (Int × Int) := tsB T l es ++ (vs.map fun v => ts1 T l (endsL es v)).flatten

theorem endsL_map (es : List (Int × Int)) (v : Int) : endsL es v = (es.filter fun e => onB e v).map fun e => e.1 + e.2 - v := by
  have key : ∀ k, k ≤ es.length → (atTo es v k).map (fun i => (es.getD i.toNat (0, 0)).1 + (es.getD i.toNat (0, 0)).2 - v) = ((es.take k).filter fun e => onB e v).map fun e => e.1 + e.2 - v := by
    intro k
    induction k with
    | zero => intro _; rfl
    | succ k ih =>
      intro hk
      have h1 : atTo es v (k + 1) = atTo es v k ++ (if onB (es.getD k (0, 0)) v = true then [(k : Int)] else []) := by
        unfold atTo nbrTo
        rw [List.range_succ, List.filter_append, List.map_append]
        congr 1
        by_cases h : onB (es.getD k (0, 0)) v = true
        · rw [if_pos h]; simp only [List.filter_cons, List.filter_nil, h, if_true, List.map_cons, List.map_nil]
        · rw [if_neg h]; simp only [List.filter_cons, List.filter_nil, h]; rfl
      rw [h1, List.map_append, ih (by omega), take_snocE es k (by omega), List.filter_append, List.map_append]
      congr 1
      by_cases h : onB (es.getD k (0, 0)) v = true
      · rw [if_pos h]; simp only [List.filter_cons, List.filter_nil, h, if_true, List.map_cons, List.map_nil, Int.toNat_natCast]
      · rw [if_neg h]; simp only [List.filter_cons, List.filter_nil, h]; rfl
  have := key es.length (Nat.le_refl _)
  rw [List.take_length] at this
  exact this
theorem filter_perm (es : List (Int × Int)) (p q : Int × Int → Bool) (h : ∀ e ∈ es, ¬ (p e = true ∧ q e = true)) : (es.filter fun e => p e || q e).Perm (es.filter p ++ es.filter q) := by
  induction es with
  | nil => exact .refl _
  | cons e es ih =>
    have ih := ih fun x hx => h x (List.mem_cons_of_mem _ hx)
    have h0 := h e (by simp)
    cases hp : p e <;> cases hq : q e
    · simpa [hp, hq] using ih
    · simp only [List.filter_cons, hp, hq, Bool.false_or, if_true]
      exact (ih.cons e).trans List.perm_middle.symm
    · simp only [List.filter_cons, hp, hq, Bool.true_or, if_true]
      exact ih.cons e
    · exact absurd ⟨hp, hq⟩ h0
/-- The edge from a vertex of the set to one outside. -/
def outB (T : Nat) (v : Int) (e : Int × Int) : Bool := onB e v && !T.testBit (e.1 + e.2 - v).toNat
theorem ts1_map (T l : Nat) (es : List (Int × Int)) (v : Int) : ts1 T l (endsL es v) = (es.filter (outB T v)).map fun e => tsE T l (e.1 + e.2 - v) := by
  rw [ts1, outL, endsL_map, List.filter_map, List.filter_filter, List.map_map]
  have h : (es.filter fun e => ((fun u : Int => !T.testBit u.toNat) ∘ fun e : Int × Int => e.1 + e.2 - v) e && onB e v) = es.filter (outB T v) :=
    List.filter_congr fun e _ => by rw [outB, Bool.and_comm]; rfl
  rw [h]
  rfl
theorem mem_in {n : Int} {es : List (Int × Int)} (h : isGraphB n es = true) {e : Int × Int} (he : e ∈ es) : ∃ x y : Nat, e = ((x : Int), (y : Int)) ∧ x < 60 ∧ y < 60 ∧ x ≠ y := by
  obtain ⟨k, hk, rfl⟩ := List.mem_iff_getElem.1 he
  obtain ⟨x, y, hxy, hx, hy⟩ := isGraphB_in h k hk
  have hne := (isGraphB_ne h).2 k hk
  have hn := isGraphB_n h
  have e1 : es[k] = es.getD k (0, 0) := by simp [List.getD, hk]
  rw [hxy] at hne
  dsimp only at hne
  exact ⟨x, y, by rw [e1, hxy], by omega, by omega, by omega⟩
theorem outB_val {T v x y : Nat} (h : x ≠ y) : outB T (v : Int) ((x : Int), (y : Int)) = ((decide (x = v) && !T.testBit y) || (decide (y = v) && !T.testBit x)) := by
  unfold outB onB
  dsimp only
  by_cases h1 : x = v
  · subst h1
    have e1 : ((x : Int) + (y : Int) - (x : Int)).toNat = y := by omega
    have d1 : ¬ (y = x) := fun e => h e.symm
    rw [e1]
    simp [d1]
  · by_cases h2 : y = v
    · subst h2
      have e1 : ((x : Int) + (y : Int) - (y : Int)).toNat = x := by omega
      rw [e1]
      simp [h1]
    · have d1 : ¬ ((x : Int) = v) := by omega
      have d2 : ¬ ((y : Int) = v) := by omega
      simp [h1, h2, d1, d2]
theorem tr_made {n : Int} {es : List (Int × Int)} (h : isGraphB n es = true) {T l a b c : Nat} (hT : ∀ i : Nat, T.testBit i = (decide (i = a) || decide (i = b) || decide (i = c))) (hab : a ≠ b) (hac : a ≠ c) (hbc : b ≠ c) (hl : l < 60) (hlow : ∀ i, i < l → T.testBit i = false) (hlT : T.testBit l = true) :
    madeE (tsL T l es [(a : Int), (b : Int), (c : Int)]) = madeE (trL T l es) := by
  refine madeE_congr ?_
  have hin : ∀ e ∈ es, ∃ x y : Nat, e = ((x : Int), (y : Int)) ∧ x < 60 ∧ y < 60 ∧ x ≠ y := fun e he => mem_in h he
  have o1 : ∀ x y v : Nat, onB ((x : Int), (y : Int)) (v : Int) = (decide (x = v) || decide (y = v)) := fun x y v => by
    unfold onB
    congr 1
    · rw [decide_eq_decide]; dsimp only; omega
    · rw [decide_eq_decide]; dsimp only; omega
  -- the sets of edges
  have hp : (es.filter fun e => !inS2 T e) = es.filter fun e => !hasS T e || (outB T a e || (outB T b e || outB T c e)) := by
    refine List.filter_congr fun e he => ?_
    obtain ⟨x, y, rfl, hx, hy, hxy⟩ := hin e he
    rw [outB_val hxy, outB_val hxy, outB_val hxy]
    unfold inS2 hasS
    simp only [Int.toNat_natCast]
    rw [hT x, hT y]
    generalize decide (x = a) = xa
    generalize decide (x = b) = xb
    generalize decide (x = c) = xc
    generalize decide (y = a) = ya
    generalize decide (y = b) = yb
    generalize decide (y = c) = yc
    revert xa xb xc ya yb yc
    decide
  -- an edge that leaves the set has one end in it
  have hout : ∀ v : Nat, T.testBit v = true → ∀ e ∈ es, outB T (v : Int) e = true → hasS T e = true ∧ mmE (tsE T l (e.1 + e.2 - v)) = mmE (trE T l e) ∧ (∀ u : Nat, T.testBit u = true → u ≠ v → outB T (u : Int) e = false) := by
    intro v hv e he hoe
    obtain ⟨x, y, rfl, hx, hy, hxy⟩ := hin e he
    unfold outB at hoe
    rw [o1] at hoe
    rw [Bool.and_eq_true, Bool.not_eq_true'] at hoe
    obtain ⟨h1, h2⟩ := hoe
    have h3 : x = v ∨ y = v := by simpa using h1
    have hl0 := fr_least hl hlow
    rcases h3 with h3 | h3
    · subst h3
      have e1 : ((x : Int) + (y : Int) - (x : Int)).toNat = y := by omega
      dsimp only at h2 ⊢
      rw [e1] at h2
      refine ⟨by simp [hasS, hv], ?_, fun u hu hne => ?_⟩
      · unfold tsE trE
        dsimp only
        rw [e1, Int.toNat_natCast, Int.toNat_natCast, if_pos hv, if_neg (by rw [h2]; decide), hl0, numV_no h2, fix_fr hl hlow hlT h2 (by omega)]
      · unfold outB
        rw [o1]
        have d1 : ¬ (x = u) := fun e => hne e.symm
        have d2 : ¬ (y = u) := by intro e; subst e; rw [h2] at hu; cases hu
        simp [d1, d2]
    · subst h3
      have e1 : ((x : Int) + (y : Int) - (y : Int)).toNat = x := by omega
      dsimp only at h2 ⊢
      rw [e1] at h2
      refine ⟨by simp [hasS, hv], ?_, fun u hu hne => ?_⟩
      · unfold tsE trE
        dsimp only
        rw [e1, Int.toNat_natCast, Int.toNat_natCast, if_pos hv, if_neg (by rw [h2]; decide), hl0, numV_no h2, fix_fr hl hlow hlT h2 (by omega), mmE_swap]
      · unfold outB
        rw [o1]
        have d1 : ¬ (y = u) := fun e => hne e.symm
        have d2 : ¬ (x = u) := by intro e; subst e; rw [h2] at hu; cases hu
        simp [d1, d2]
  have ha1 : T.testBit a = true := by rw [hT]; simp
  have hb1 : T.testBit b = true := by rw [hT]; simp
  have hc1 : T.testBit c = true := by rw [hT]; simp
  have hperm : (es.filter fun e => !inS2 T e).Perm ((es.filter fun e => !hasS T e) ++ (es.filter (outB T a) ++ (es.filter (outB T b) ++ es.filter (outB T c)))) := by
    rw [hp]
    refine (filter_perm es _ _ fun e he hh => ?_).trans (List.Perm.append_left _ ((filter_perm es _ _ fun e he hh => ?_).trans (List.Perm.append_left _ (filter_perm es _ _ fun e he hh => ?_))))
    · obtain ⟨h1, h2⟩ := hh
      rw [Bool.not_eq_true'] at h1
      rcases (by simpa using h2 : outB T a e = true ∨ outB T b e = true ∨ outB T c e = true) with h3 | h3 | h3
      · have := (hout a ha1 e he h3).1; rw [h1] at this; cases this
      · have := (hout b hb1 e he h3).1; rw [h1] at this; cases this
      · have := (hout c hc1 e he h3).1; rw [h1] at this; cases this
    · obtain ⟨h1, h2⟩ := hh
      have h4 := (hout a ha1 e he h1).2.2
      rcases (by simpa using h2 : outB T b e = true ∨ outB T c e = true) with h3 | h3
      · rw [h4 b hb1 (Ne.symm hab)] at h3; cases h3
      · rw [h4 c hc1 (Ne.symm hac)] at h3; cases h3
    · obtain ⟨h1, h2⟩ := hh
      rw [(hout b hb1 e he h1).2.2 c hc1 (Ne.symm hbc)] at h2; cases h2
  have hB : (tsB T l es).map mmE = ((es.filter fun e => !hasS T e).map (trE T l)).map mmE := by
    unfold tsB woL
    rw [List.map_map, List.map_map, List.map_map]
    refine List.map_congr_left fun e he => ?_
    rw [List.mem_filter] at he
    obtain ⟨he, hs⟩ := he
    obtain ⟨x, y, rfl, hx, hy, hxy⟩ := hin e he
    simp only [hasS, Int.toNat_natCast, Bool.not_eq_true', Bool.or_eq_false_iff] at hs
    have f1 := fix_fr hl hlow hlT hs.1 (by omega)
    have f2 := fix_fr hl hlow hlT hs.2 (by omega)
    simp only [Function.comp, shE, trE, Int.toNat_natCast, hs.1, hs.2]
    rw [if_neg (by decide), if_neg (by decide), ← f1, ← f2]
    rfl
  have hV : ∀ v : Nat, T.testBit v = true → (ts1 T l (endsL es v)).map mmE = ((es.filter (outB T v)).map (trE T l)).map mmE := by
    intro v hv
    rw [ts1_map, List.map_map, List.map_map]
    refine List.map_congr_left fun e he => ?_
    rw [List.mem_filter] at he
    exact (hout v hv e he.1 he.2).2.1
  have h9 := (hperm.map (trE T l)).map mmE
  have h8 : (tsL T l es [(a : Int), (b : Int), (c : Int)]).map mmE = (((es.filter fun e => !hasS T e) ++ (es.filter (outB T a) ++ (es.filter (outB T b) ++ es.filter (outB T c)))).map (trE T l)).map mmE := by
    unfold tsL
    simp only [List.map_cons, List.map_nil, List.flatten_cons, List.flatten_nil, List.append_nil, List.map_append]
    rw [hB, hV a ha1, hV b hb1, hV c hc1]
  rw [h8]
  exact h9.symm
theorem two_len {us : List Int} {b c : Int} (h : ∀ u ∈ us, u = b ∨ u = c) : us.length ≤ (us.filter fun v => decide (v = b)).length + (us.filter fun v => decide (v = c)).length := by
  induction us with
  | nil => simp
  | cons u us ih =>
    have ih := ih fun x hx => h x (List.mem_cons_of_mem _ hx)
    rcases h u (by simp) with h1 | h1
    · subst h1
      simp only [List.filter_cons, decide_true, if_true, List.length_cons]
      split
      · rw [List.length_cons]; omega
      · omega
    · subst h1
      simp only [List.filter_cons, decide_true, if_true, List.length_cons]
      split
      · rw [List.length_cons]; omega
      · omega
/-- An edge is left. -/
theorem trL_pos {n : Int} {es : List (Int × Int)} (h : isGraphB n es = true) {T l a b c : Nat} (hT : ∀ i : Nat, T.testBit i = (decide (i = a) || decide (i = b) || decide (i = c))) (ha : inB (a : Int) 0 (n - 1) = true) (h1 : joinN es a b = 1) (h2 : joinN es a c = 1) : 0 < (trL T l es).length := by
  have h3 := (ends_three h ha).2.1
  obtain ⟨u, hu, hub, huc⟩ : ∃ u ∈ endsL es a, u ≠ (b : Int) ∧ u ≠ (c : Int) := by
    refine Classical.byContradiction fun hn => ?_
    have := two_len (us := endsL es a) (b := b) (c := c) fun u hu => Classical.byContradiction fun h => hn ⟨u, hu, fun e => h (.inl e), fun e => h (.inr e)⟩
    unfold joinN at h1 h2
    omega
  rw [endsL_map, List.mem_map] at hu
  obtain ⟨e, he, rfl⟩ := hu
  rw [List.mem_filter] at he
  obtain ⟨he, hon⟩ := he
  unfold trL
  rw [List.length_map]
  refine List.length_pos_of_mem (a := e) (List.mem_filter.2 ⟨he, ?_⟩)
  obtain ⟨x, y, rfl, hx, hy, hxy⟩ := mem_in h he
  simp only [onB, Bool.or_eq_true, decide_eq_true_eq] at hon
  dsimp only at hub huc
  simp only [inS2, Int.toNat_natCast, Bool.not_eq_true', Bool.and_eq_false_iff, hT, Bool.or_eq_false_iff, decide_eq_false_iff_not]
  omega
/-- The vertices of the triangle and the least of them. -/
theorem tri_bits (a b c : Nat) (i : Nat) : (setN [(a : Int), (b : Int), (c : Int)]).testBit i = (decide (i = a) || decide (i = b) || decide (i = c)) := by
  rw [setN_bit (by simp)]
  rw [Bool.eq_iff_iff]
  simp only [List.mem_cons, List.not_mem_nil, or_false, Bool.or_eq_true, decide_eq_true_eq]
  omega
/-- The shrunk triangle and the code. -/
def triV (n : Int) (es : List (Int × Int)) (a b c : Int) : Int × List (Int × Int) × Int :=
  if isGraphB n es = false then (0, [], 1) else if (inB a 0 (n - 1) && inB b 0 (n - 1) && inB c 0 (n - 1)) = false then (0, [], 2)
  else if a = b ∨ a = c ∨ b = c ∨ joinN es a b ≠ 1 ∨ joinN es a c ≠ 1 ∨ joinN es b c ≠ 1 then (0, [], 5)
  else (n - 2, madeE (trL (setN [a, b, c]) (min a (min b c)).toNat es), 0)
theorem lenTri (n : Int) (es : List (Int × Int)) (a b c : Int) (h : es.length ≤ 1048576) : (triV n es a b c).2.1.length ≤ 1048576 := by
  unfold triV
  split
  · simp
  · split
    · simp
    · split
      · simp
      · rw [madeE_len]; have := trL_len (setN [a, b, c]) (min a (min b c)).toNat es; omega
end Go.Proofs.YtjgmoffkecnmcaaGreat
