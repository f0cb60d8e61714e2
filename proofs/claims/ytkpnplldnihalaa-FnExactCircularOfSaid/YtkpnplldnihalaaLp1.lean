/- The first numbers that do not clash: the plain law. No statement of the program is proved here. -/
import Derived.Test.YtkpnplldnihalaaCi3
namespace Go.Proofs.Ytkpnplldnihalaa
open Go.RowKit
set_option linter.unusedSimpArgs false
set_option linter.unusedVariables false
set_option maxRecDepth 20000

/-- Number x clashes with none of the lesser neighbours' numbers. -/
def fitsB (are : Nat → Nat → Bool) (bad : Int → Int → Bool) (pre : List Int) (x : Int) : Bool := !(nbr are pre.length).any fun n => bad x (pre.getD n.toNat 0)
/-- The first numbers behind those of pre, r of them; behind a list, cand tells how many numbers are tried. -/
def fillO (are : Nat → Nat → Bool) (bad : Int → Int → Bool) (cand : List Int → Nat) : Nat → List Int → Option (List Int)
  | 0, pre => some pre
  | r + 1, pre => (List.range (cand pre)).findSome? fun x : Nat => if fitsB are bad pre (x : Int) = true then fillO are bad cand r (pre ++ [(x : Int)]) else none
/-- The greatest number so far. -/
def mostL (pre : List Int) : Int := pre.foldl max (-1)
theorem mostL_snoc (pre : List Int) (x : Int) : mostL (pre ++ [x]) = max (mostL pre) x := by simp [mostL]
theorem mostL_ge (pre : List Int) : -1 ≤ mostL pre := by
  have key : ∀ (xs : List Int) (b : Int), b ≤ xs.foldl max b := fun xs => by
    induction xs with
    | nil => intro b; exact Int.le_refl _
    | cons x xs ih => intro b; rw [List.foldl_cons]; exact Int.le_trans (by omega) (ih _)
  exact key pre (-1)
theorem mostL_idx (i : Nat) : mostL (idx i) = (i : Int) - 1 := by
  induction i with
  | zero => simp [idx, mostL]
  | succ i ih => rw [← idx_snoc, mostL_snoc, ih]; omega
/-- With free colours: the numbers up to one more than all before, and below k. -/
def candF (k : Int) (pre : List Int) : Nat := (min k (mostL pre + 2)).toNat
/-- On the circle: all numbers below k, at the first place 0 alone. -/
def candC (k : Int) (pre : List Int) : Nat := if pre.length = 0 then 1 else k.toNat

theorem findSome_range {α : Type} (f : Nat → Option α) (c : Nat) : (List.range (c + 1)).findSome? f = ((List.range c).findSome? f).or (f c) := by
  rw [List.range_succ, List.findSome?_append]
  simp
theorem fillO_len {are : Nat → Nat → Bool} {bad : Int → Int → Bool} {cand : List Int → Nat} : ∀ (r : Nat) (pre xs : List Int), fillO are bad cand r pre = some xs → xs.length = pre.length + r
  | 0, pre, xs, h => by simp [fillO] at h; rw [h]; rfl
  | r + 1, pre, xs, h => by
    rw [fillO, List.findSome?_eq_some_iff] at h
    obtain ⟨_, x, _, _, h2, _⟩ := h
    split at h2
    · have := fillO_len r _ _ h2
      rw [this]; simp; omega
    · cases h2
/-- What is found does not clash. -/
theorem fillO_good {are : Nat → Nat → Bool} {bad : Int → Int → Bool} {cand : List Int → Nat} {k : Int} (hc : ∀ pre, ((cand pre : Nat) : Int) ≤ max k 0) : ∀ (r : Nat) (pre xs : List Int), fillO are bad cand r pre = some xs →
    (∀ i, i < pre.length → (0 ≤ pre.getD i 0 ∧ pre.getD i 0 < k) ∧ ∀ n, n < i → are i n = true → bad (pre.getD i 0) (pre.getD n 0) = false) →
    ∀ i, i < xs.length → (0 ≤ xs.getD i 0 ∧ xs.getD i 0 < k) ∧ ∀ n, n < i → are i n = true → bad (xs.getD i 0) (xs.getD n 0) = false
  | 0, pre, xs, h, hp => by simp [fillO] at h; rw [← h]; exact hp
  | r + 1, pre, xs, h, hp => by
    rw [fillO, List.findSome?_eq_some_iff] at h
    obtain ⟨l1, x, l2, hl, h2, _⟩ := h
    split at h2
    · rename_i hf
      refine fillO_good hc r _ _ h2 fun i hi => ?_
      have hx : x < cand pre := by
        have : x ∈ List.range (cand pre) := by rw [hl]; simp
        simpa using this
      have hk := hc pre
      rw [List.length_append, List.length_singleton] at hi
      by_cases e : i = pre.length
      · subst e
        have g : (pre ++ [(x : Int)]).getD pre.length 0 = x := by simp [List.getD]
        refine ⟨by rw [g]; omega, fun n hn ha => ?_⟩
        have gn : (pre ++ [(x : Int)]).getD n 0 = pre.getD n 0 := by simp [List.getD, List.getElem?_append_left hn]
        rw [g, gn]
        simp only [fitsB, Bool.not_eq_true', List.any_eq_false] at hf
        have := hf (n : Int) (by simp only [nbr, nbrTo, List.mem_map, List.mem_filter, List.mem_range]; exact ⟨n, ⟨hn, ha⟩, rfl⟩)
        simpa using this
      · have hi' : i < pre.length := by omega
        have gi : (pre ++ [(x : Int)]).getD i 0 = pre.getD i 0 := by simp [List.getD, List.getElem?_append_left hi']
        refine ⟨by rw [gi]; exact (hp i hi').1, fun n hn ha => ?_⟩
        have gn : (pre ++ [(x : Int)]).getD n 0 = pre.getD n 0 := by simp [List.getD, List.getElem?_append_left (show n < pre.length by omega)]
        rw [gi, gn]; exact (hp i hi').2 n hn ha
    · cases h2
theorem candF_le (k : Int) (pre : List Int) : ((candF k pre : Nat) : Int) ≤ max k 0 := by unfold candF; omega
/-- With as many colours as things, some are found. -/
theorem fillO_all {are : Nat → Nat → Bool} {T : Nat} {k : Int} (hk : (T : Int) ≤ k) : ∀ (r i : Nat), i + r = T → (fillO are (fun x y => decide (x = y)) (candF k) r (idx i)).isSome = true
  | 0, i, _ => rfl
  | r + 1, i, h => by
    have ih := fillO_all (are := are) hk r (i + 1) (by omega)
    rw [fillO, List.findSome?_isSome_iff]
    refine ⟨i, ?_, ?_⟩
    · simp only [List.mem_range, candF, mostL_idx]
      omega
    · rw [if_pos, idx_snoc]
      · exact ih
      · simp only [fitsB, Bool.not_eq_true', List.any_eq_false]
        intro a ha
        obtain ⟨n, rfl, hn, _⟩ := mem_nbr ha
        rw [idx_len] at hn
        rw [Int.toNat_natCast, idx_getD i n hn]
        simp; omega
/-- Three things that are neighbours of one another want three colours, and so on: with fewer none are found. -/
theorem fillO_three {are : Nat → Nat → Bool} {T : Nat} {k : Int} {a b c : Nat} (hab : b < a) (hbc : c < b) (ha : a < T) (h1 : are a b = true) (h2 : are a c = true) (h3 : are b c = true) (hk : k < 3) :
    fillO are (fun x y => decide (x = y)) (candF k) T [] = none := by
  cases h : fillO are (fun x y => decide (x = y)) (candF k) T [] with
  | none => rfl
  | some xs =>
    have hl := fillO_len _ _ _ h
    have hg := fillO_good (k := k) (fun pre => candF_le k pre) T [] xs h (by intro i hi; simp at hi)
    simp at hl
    have ga := hg a (by omega)
    have gb := hg b (by omega)
    have gc := hg c (by omega)
    have e1 := ga.2 b hab h1
    have e2 := ga.2 c (by omega) h2
    have e3 := gb.2 c hbc h3
    simp only [decide_eq_false_iff_not] at e1 e2 e3
    have := ga.1; have := gb.1; have := gc.1
    omega
theorem fillO_four {are : Nat → Nat → Bool} {T : Nat} {k : Int} {a b c d : Nat} (hab : b < a) (hbc : c < b) (hcd : d < c) (ha : a < T) (h1 : are a b = true) (h2 : are a c = true) (h3 : are b c = true) (h4 : are a d = true) (h5 : are b d = true) (h6 : are c d = true) (hk : k < 4) :
    fillO are (fun x y => decide (x = y)) (candF k) T [] = none := by
  cases h : fillO are (fun x y => decide (x = y)) (candF k) T [] with
  | none => rfl
  | some xs =>
    have hl := fillO_len _ _ _ h
    have hg := fillO_good (k := k) (fun pre => candF_le k pre) T [] xs h (by intro i hi; simp at hi)
    simp at hl
    have ga := hg a (by omega)
    have gb := hg b (by omega)
    have gc := hg c (by omega)
    have gd := hg d (by omega)
    have e1 := ga.2 b hab h1
    have e2 := ga.2 c (by omega) h2
    have e3 := gb.2 c hbc h3
    have e4 := ga.2 d (by omega) h4
    have e5 := gb.2 d (by omega) h5
    have e6 := gc.2 d hcd h6
    simp only [decide_eq_false_iff_not] at e1 e2 e3 e4 e5 e6
    have := ga.1; have := gb.1; have := gc.1; have := gd.1
    omega
end Go.Proofs.Ytkpnplldnihalaa
