/- Faces of a rotation: the plain law. No statement of the program is proved here. -/
import Derived.Test.YtigdfcigoejjjaaGr
import Derived.Test.YtigdfcigoejjjaaAt
namespace Go.Proofs.Ytigdfcigoejjjaa
open Go.RowKit
set_option linter.unusedSimpArgs false
set_option linter.unusedVariables false
set_option maxRecDepth 20000

/-- At a vertex of a graph there are three edges. -/
theorem atL_three {n : Int} {es : List (Int × Int)} (h : isGraphB n es = true) {v : Int} (hv : inB v 0 (n - 1) = true) :
    ∃ a b c : Nat, atL es v = [(a : Int), (b : Int), (c : Int)] ∧ a < b ∧ b < c ∧ c < es.length ∧ onB (es.getD a (0, 0)) v = true ∧ onB (es.getD b (0, 0)) v = true ∧ onB (es.getD c (0, 0)) v = true := by
  have h2 := h
  simp only [isGraphB, Bool.and_eq_true] at h2
  have h3 := areEdgesB_in h2.1
  have hn := isGraphB_n h
  have hb := inB_true.1 hv
  obtain ⟨u, rfl⟩ : ∃ u : Nat, v = u := ⟨v.toNat, by omega⟩
  have hd : (degs n.toNat es).getD u 0 = 3 := by
    have hall := h2.2
    have key : ∀ (xs : List Int), (xs.all fun k => decide (k = 3)) = true → ∀ j, j < xs.length → xs.getD j 0 = 3 := fun xs hx j hl => by
      rw [List.all_eq_true] at hx
      have := hx xs[j] (List.getElem_mem hl)
      simpa [List.getD, hl] using this
    exact key _ hall.2.2 u (by rw [degs_len]; omega)
  have h1 := degs_at h3.2.2.2.1 h3.2.2.2.2 (v := u) (by omega) es.length (Nat.le_refl _)
  rw [List.take_length, hd] at h1
  have hlen : ((List.range es.length).filter fun j => onB (es.getD j (0, 0)) u).length = 3 := by omega
  have hp : (((List.range es.length).filter fun j => onB (es.getD j (0, 0)) u)).Pairwise (· < ·) := List.Pairwise.filter _ List.pairwise_lt_range
  have hm : ∀ x ∈ ((List.range es.length).filter fun j => onB (es.getD j (0, 0)) u), x < es.length ∧ onB (es.getD x (0, 0)) u = true := fun x hx => by
    rw [List.mem_filter, List.mem_range] at hx; exact hx
  have hA : atL es u = ((List.range es.length).filter fun j => onB (es.getD j (0, 0)) u).map fun (j : Nat) => (j : Int) := rfl
  rw [hA]
  generalize ((List.range es.length).filter fun j => onB (es.getD j (0, 0)) u) = F at *
  match F, hlen, hp, hm with
  | [x0, x1, x2], _, hp, hm =>
    rw [List.pairwise_cons, List.pairwise_cons] at hp
    have a1 := hp.1 x1 (by simp)
    have a2 := hp.2.1 x2 (by simp)
    exact ⟨x0, x1, x2, rfl, a1, a2, (hm x2 (by simp)).1, (hm x0 (by simp)).2, (hm x1 (by simp)).2, (hm x2 (by simp)).2⟩
/-- How many are not met. -/
def openN (met : List Bool) : Nat := (met.filter fun b => !b).length
theorem openN_set {met : List Bool} {d : Nat} (hd : d < met.length) (h : met.getD d true = false) : openN (met.set d true) + 1 = openN met := by
  unfold openN
  induction met generalizing d with
  | nil => simp at hd
  | cons b bs ih =>
    cases d with
    | zero =>
      simp only [List.getD_cons_zero] at h
      subst h
      simp
    | succ d =>
      simp only [List.getD_cons_succ] at h
      have := ih (d := d) (by simpa using hd) h
      cases b <;> simp only [List.set_cons_succ, List.filter_cons, Bool.not_false, Bool.not_true, if_true, List.length_cons, Bool.false_eq_true, if_false] <;> omega
theorem openN_le (met : List Bool) : openN met ≤ met.length := List.length_filter_le _ _
theorem openN_pos {met : List Bool} {d : Nat} (hd : d < met.length) (h : met.getD d true = false) : 0 < openN met := by have := openN_set hd h; omega
/-- A face, from a directed edge on. -/
def runF (nx : Nat → Nat) : Nat → List Bool → List Int → Nat → List Bool × List Int
  | 0, met, face, _ => (met, face)
  | k + 1, met, face, d => if met.getD d true = true then (met, face) else runF nx k (met.set d true) (face ++ [((d / 2 : Nat) : Int)]) (nx d)
theorem runF_stop {nx : Nat → Nat} {k : Nat} {met : List Bool} {face : List Int} {d : Nat} (h : met.getD d true = true) : runF nx k met face d = (met, face) := by
  cases k with
  | zero => rfl
  | succ k => unfold runF; rw [if_pos h]
theorem runF_go {nx : Nat → Nat} {k : Nat} {met : List Bool} {face : List Int} {d : Nat} (h : met.getD d true = false) : runF nx (k + 1) met face d = runF nx k (met.set d true) (face ++ [((d / 2 : Nat) : Int)]) (nx d) := by
  rw [runF, if_neg (by rw [h]; decide)]
/-- The faces of the first directed edges. -/
def facesT (nx : Nat → Nat) (n : Nat) : Nat → List Bool × List (List Int)
  | 0 => (List.replicate n false, [])
  | k + 1 => if (facesT nx n k).1.getD k true = true then facesT nx n k else
      ((runF nx n (facesT nx n k).1 [] k).1, (facesT nx n k).2 ++ [(runF nx n (facesT nx n k).1 [] k).2])
theorem runF_len {nx : Nat → Nat} : ∀ (k : Nat) (met : List Bool) (face : List Int) (d : Nat), (runF nx k met face d).1.length = met.length := by
  intro k
  induction k with
  | zero => intro met face d; rfl
  | succ k ih =>
    intro met face d
    rw [runF]
    split
    · rfl
    · rw [ih, List.length_set]
theorem facesT_len (nx : Nat → Nat) (n : Nat) : ∀ k, (facesT nx n k).1.length = n := by
  intro k
  induction k with
  | zero => simp [facesT]
  | succ k ih =>
    rw [facesT]
    split
    · exact ih
    · show (runF nx n (facesT nx n k).1 [] k).1.length = n
      rw [runF_len, ih]
/-- The directed edge behind another one. -/
def endD (es : List (Int × Int)) (d : Nat) : Int := if d % 2 = 1 then (es.getD (d / 2) (0, 0)).1 else (es.getD (d / 2) (0, 0)).2
def posD (at_ : List Int) (e : Int) : Nat := if at_.getD 0 0 = e then 0 else if at_.getD 1 0 = e then 1 else 2
def nextE (es : List (Int × Int)) (rot : List Int) (d : Nat) : Nat := ((atL es (endD es d)).getD ((posD (atL es (endD es d)) ((d / 2 : Nat) : Int) + 1 + (rot.getD (endD es d).toNat 0).toNat) % 3) 0).toNat
def nxD (es : List (Int × Int)) (rot : List Int) (d : Nat) : Nat := 2 * nextE es rot d + if (es.getD (nextE es rot d) (0, 0)).2 = endD es d then 1 else 0
def facesV (es : List (Int × Int)) (rot : List Int) : List (List Int) := (facesT (nxD es rot) (2 * es.length) (2 * es.length)).2
theorem endD_in {n : Int} {es : List (Int × Int)} (h : isGraphB n es = true) {d : Nat} (hd : d < 2 * es.length) : inB (endD es d) 0 (n - 1) = true := by
  have hk : d / 2 < es.length := by omega
  obtain ⟨x, y, hxy, hx, hy⟩ := isGraphB_in h (d / 2) hk
  have hn := isGraphB_n h
  unfold endD
  rw [hxy]
  split
  · exact inB_true.2 (by dsimp only; omega)
  · exact inB_true.2 (by dsimp only; omega)
theorem nextE_lt {n : Int} {es : List (Int × Int)} (h : isGraphB n es = true) (rot : List Int) {d : Nat} (hd : d < 2 * es.length) : nextE es rot d < es.length ∧ onB (es.getD (nextE es rot d) (0, 0)) (endD es d) = true := by
  obtain ⟨a, b, c, hat, hab, hbc, hcl, ha, hb, hc⟩ := atL_three h (endD_in h hd)
  unfold nextE
  rw [hat]
  generalize (posD [(a : Int), (b : Int), (c : Int)] ((d / 2 : Nat) : Int) + 1 + (rot.getD (endD es d).toNat 0).toNat) = q
  have h3 : q % 3 = 0 ∨ q % 3 = 1 ∨ q % 3 = 2 := by omega
  rcases h3 with e | e | e <;> rw [e]
  · simp only [List.getD_cons_zero, Int.toNat_natCast]; exact ⟨by omega, ha⟩
  · simp only [List.getD_cons_zero, List.getD_cons_succ, Int.toNat_natCast]; exact ⟨by omega, hb⟩
  · simp only [List.getD_cons_zero, List.getD_cons_succ, Int.toNat_natCast]; exact ⟨by omega, hc⟩
theorem nxD_lt {n : Int} {es : List (Int × Int)} (h : isGraphB n es = true) (rot : List Int) {d : Nat} (hd : d < 2 * es.length) : nxD es rot d < 2 * es.length := by
  have := (nextE_lt h rot hd).1
  unfold nxD
  split <;> omega
theorem inE_onB {es : List (Int × Int)} {v : Int} {e : Nat} (he : e < es.length) (h : onB (es.getD e (0, 0)) v = true) : (e : Int) ∈ atL es v := by
  unfold atL atTo nbrTo
  simp only [List.mem_map, List.mem_filter, List.mem_range]
  exact ⟨e, ⟨he, h⟩, rfl⟩
theorem endD_on (es : List (Int × Int)) (d : Nat) : onB (es.getD (d / 2) (0, 0)) (endD es d) = true := by
  unfold endD
  split <;> simp [onB]
theorem posD_at {es : List (Int × Int)} {n : Int} (h : isGraphB n es = true) {d : Nat} (hd : d < 2 * es.length) :
    ∃ a b c : Nat, atL es (endD es d) = [(a : Int), (b : Int), (c : Int)] ∧ a < b ∧ b < c ∧ c < es.length ∧
      ((d / 2 = a ∧ posD (atL es (endD es d)) ((d / 2 : Nat) : Int) = 0) ∨ (d / 2 = b ∧ posD (atL es (endD es d)) ((d / 2 : Nat) : Int) = 1) ∨ (d / 2 = c ∧ posD (atL es (endD es d)) ((d / 2 : Nat) : Int) = 2)) := by
  obtain ⟨a, b, c, hat, hab, hbc, hcl, ha, hb, hc⟩ := atL_three h (endD_in h hd)
  refine ⟨a, b, c, hat, hab, hbc, hcl, ?_⟩
  have hm := inE_onB (show d / 2 < es.length by omega) (endD_on es d)
  rw [hat] at hm ⊢
  simp only [List.mem_cons, List.not_mem_nil, or_false] at hm
  unfold posD
  simp only [List.getD_cons_zero, List.getD_cons_succ]
  rcases hm with e | e | e
  · left; refine ⟨by omega, ?_⟩; rw [if_pos e.symm]
  · right; left; refine ⟨by omega, ?_⟩; rw [if_neg (by omega), if_pos e.symm]
  · right; right; refine ⟨by omega, ?_⟩; rw [if_neg (by omega), if_neg (by omega)]
/-- More fuel than there are free edges adds nothing. -/
theorem runF_fuel {nx : Nat → Nat} {n : Nat} (hnx : ∀ d, d < n → nx d < n) : ∀ (k : Nat) (met : List Bool) (face : List Int) (d : Nat), met.length = n → d < n → openN met ≤ k → runF nx (k + 1) met face d = runF nx k met face d := by
  intro k
  induction k with
  | zero =>
    intro met face d hl hd hk
    cases h : met.getD d true
    · have := openN_pos (by omega : d < met.length) h; omega
    · rw [runF_stop h, runF_stop h]
  | succ k ih =>
    intro met face d hl hd hk
    cases h : met.getD d true
    · rw [runF_go h, runF_go h]
      exact ih _ _ _ (by rw [List.length_set]; exact hl) (hnx d hd) (by have := openN_set (by omega : d < met.length) h; omega)
    · rw [runF_stop h, runF_stop h]
theorem openN_rep (n : Nat) : openN (List.replicate n false) = n := by simp [openN]
theorem facesT_step (nx : Nat → Nat) (n k : Nat) : ((facesT nx n k).1.getD k true = true → facesT nx n (k + 1) = facesT nx n k) ∧
    ((facesT nx n k).1.getD k true = false → facesT nx n (k + 1) = ((runF nx n (facesT nx n k).1 [] k).1, (facesT nx n k).2 ++ [(runF nx n (facesT nx n k).1 [] k).2])) := by
  constructor
  · intro h; rw [facesT, if_pos h]
  · intro h; rw [facesT, if_neg (by rw [h]; decide)]
theorem runF_face {nx : Nat → Nat} : ∀ (k : Nat) (met : List Bool) (face : List Int) (d : Nat), ∃ r, (runF nx k met face d).2 = face ++ r ∧ r.length + openN (runF nx k met face d).1 ≤ openN met ∨ met.length ≤ d := by
  intro k
  induction k with
  | zero => intro met face d; exact ⟨[], .inl ⟨by simp [runF], by simp [runF]⟩⟩
  | succ k ih =>
    intro met face d
    by_cases hd : d < met.length
    · cases h : met.getD d true
      · rw [runF_go h]
        obtain ⟨r, hr⟩ := ih (met.set d true) (face ++ [((d / 2 : Nat) : Int)]) (nx d)
        have h9 := openN_set hd h
        rcases hr with ⟨h1, h2⟩ | h1
        · exact ⟨((d / 2 : Nat) : Int) :: r, .inl ⟨by rw [h1]; simp, by simp only [List.length_cons]; omega⟩⟩
        · refine ⟨[((d / 2 : Nat) : Int)], .inl ?_⟩
          have e : runF nx k (met.set d true) (face ++ [((d / 2 : Nat) : Int)]) (nx d) = (met.set d true, face ++ [((d / 2 : Nat) : Int)]) := runF_stop (by rw [List.getD_eq_getElem?_getD, List.getElem?_eq_none h1]; rfl)
          rw [e]
          exact ⟨rfl, by simp only [List.length_singleton]; omega⟩
      · rw [runF_stop h]
        exact ⟨[], .inl ⟨by simp, by simp⟩⟩
    · exact ⟨[], .inr (by omega)⟩
theorem facesT_le (nx : Nat → Nat) (n k : Nat) : (facesT nx n k).2.length ≤ k := by
  induction k with
  | zero => simp [facesT]
  | succ k ih =>
    rw [facesT]
    split
    · omega
    · simp only [List.length_append, List.length_singleton]; omega
end Go.Proofs.Ytigdfcigoejjjaa
