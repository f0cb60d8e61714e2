/- Star products: the plain law. No statement of the program is proved here. -/
import Derived.Test.YtjgmoffkecnmcaaGreatWo4
import Derived.Test.YtjgmoffkecnmcaaGreatWo5
import Derived.Test.YtjgmoffkecnmcaaGreatBr1
import Derived.Test.YtjgmoffkecnmcaaGreatOv3
namespace Go.Proofs.YtjgmoffkecnmcaaGreat
open Go.RowKit
set_option linter.unusedSimpArgs false
set_option linter.unusedVariables false
set_option maxRecDepth 20000

/-- The ends of the three edges at a vertex. -/
theorem ends_three {n : Int} {es : List (Int × Int)} (h : isGraphB n es = true) {v : Int} (hv : inB v 0 (n - 1) = true) :
    (atL es v).length = 3 ∧ (endsL es v).length = 3 ∧ ∀ i, i < 3 → 0 ≤ (endsL es v).getD i 0 ∧ (endsL es v).getD i 0 < n ∧ (endsL es v).getD i 0 ≠ v := by
  obtain ⟨a, b, c, hat, hab, hbc, hcl, ha, hb, hc⟩ := atL_three h hv
  have key : ∀ k, k < es.length → onB (es.getD k (0, 0)) v = true → 0 ≤ (es.getD k (0, 0)).1 + (es.getD k (0, 0)).2 - v ∧ (es.getD k (0, 0)).1 + (es.getD k (0, 0)).2 - v < n ∧ (es.getD k (0, 0)).1 + (es.getD k (0, 0)).2 - v ≠ v := fun k hk hon => by
    obtain ⟨x, y, hxy, hx, hy⟩ := isGraphB_in h k hk
    have hne := (isGraphB_ne h).2 k hk
    have hn := isGraphB_n h
    rw [hxy] at hon hne ⊢
    simp only [onB, Bool.or_eq_true, decide_eq_true_eq] at hon
    dsimp only at hne ⊢
    omega
  refine ⟨by rw [hat]; rfl, by rw [endsL_len, hat]; rfl, fun i hi => ?_⟩
  unfold endsL
  rw [hat]
  match i, hi with
  | 0, _ => exact key a (by omega) ha
  | 1, _ => exact key b (by omega) hb
  | 2, _ => exact key c hcl hc
theorem pow_bit (v u : Nat) : (2 ^ v).testBit u = decide (u = v) := by
  rw [Nat.testBit_two_pow, decide_eq_decide]; exact ⟨Eq.symm, Eq.symm⟩
theorem setN_one (v : Nat) : setN [(v : Int)] = 2 ^ v := by simp [setN]
theorem filter_split (es : List (Int × Int)) (q : Int × Int → Bool) : (es.filter fun e => !q e).length + (es.filter q).length = es.length := by
  induction es with
  | nil => rfl
  | cons e es ih => cases h : q e <;> simp [h] <;> omega
theorem atL_count (es : List (Int × Int)) (v : Int) : (atL es v).length = (es.filter fun e => onB e v).length := by
  unfold atL atTo nbrTo
  rw [List.length_map]
  have key : ∀ k, k ≤ es.length → ((List.range k).filter fun j => onB (es.getD j (0, 0)) v).length = ((es.take k).filter fun e => onB e v).length := by
    intro k
    induction k with
    | zero => intro _; rfl
    | succ k ih =>
      intro hk
      rw [List.range_succ, List.filter_append, List.length_append, ih (by omega), take_snocE es k (by omega), List.filter_append, List.length_append]
      congr 1
      simp only [List.filter_cons, List.filter_nil]
      split <;> rfl
  have := key es.length (Nat.le_refl _)
  rw [List.take_length] at this
  exact this
/-- Edges are left behind. -/
theorem woL_pos {n : Int} {es : List (Int × Int)} (h : isGraphB n es = true) {v : Nat} (hv : inB (v : Int) 0 (n - 1) = true) (h2 : n ≠ 2) (f : Int) : 0 < (woL (2 ^ v) f es).length := by
  have h3 := (ends_three h hv).1
  rw [atL_count] at h3
  have hs := filter_split es fun e => onB e v
  have hg := h
  simp only [isGraphB, Bool.and_eq_true] at hg
  have h5 := areEdgesB_in hg.1
  have hlen := h5.2.2.1
  have hn := h5.1
  have hev := h5.2.1
  unfold woL
  rw [List.length_map]
  have he : (es.filter fun e => !hasS (2 ^ v) e) = es.filter fun e => !onB e v := by
    refine List.filter_congr fun e he => ?_
    have hb := h5.2.2.2.1
    obtain ⟨j, hj, rfl⟩ := List.mem_iff_getElem.1 he
    obtain ⟨a, b, hab, _, _⟩ := hb j hj
    have e1 : es[j] = ((a : Int), (b : Int)) := by rw [← hab]; simp [List.getD, hj]
    rw [e1]
    simp only [hasS, onB, Int.toNat_natCast, pow_bit]
    congr 2
    · rw [decide_eq_decide]; omega
    · rw [decide_eq_decide]; omega
  rw [he]
  omega
/-- The edges between the two parts. -/
def starT (s1 s2 : Nat) (f : Int) (us ws : List Int) (k : Nat) : List (Int × Int) := (List.range k).map fun i => (frV s1 0 (us.getD i 0).toNat, frV s2 f (ws.getD i 0).toNat)
theorem starT_succ (s1 s2 : Nat) (f : Int) (us ws : List Int) (k : Nat) : starT s1 s2 f us ws (k + 1) = starT s1 s2 f us ws k ++ [(frV s1 0 (us.getD k 0).toNat, frV s2 f (ws.getD k 0).toNat)] := by simp [starT, List.range_succ]
theorem starT_len (s1 s2 : Nat) (f : Int) (us ws : List Int) (k : Nat) : (starT s1 s2 f us ws k).length = k := by simp [starT]
def starB (n : Int) (es : List (Int × Int)) (v : Nat) (hs : List (Int × Int)) (x : Nat) : List (Int × Int) := woL (2 ^ v) 0 es ++ woL (2 ^ x) (n - 1) hs
def starL (n : Int) (es : List (Int × Int)) (v : Nat) (hs : List (Int × Int)) (x : Nat) (k : Nat) : List (Int × Int) := starB n es v hs x ++ starT (2 ^ v) (2 ^ x) (n - 1) (endsL es v) (endsL hs x) k
theorem starL_succ (n : Int) (es : List (Int × Int)) (v : Nat) (hs : List (Int × Int)) (x k : Nat) : starL n es v hs x (k + 1) = starL n es v hs x k ++ [(frV (2 ^ v) 0 ((endsL es v).getD k 0).toNat, frV (2 ^ x) (n - 1) ((endsL hs x).getD k 0).toNat)] := by
  rw [starL, starT_succ, ← List.append_assoc]; rfl
theorem starL_zero (n : Int) (es : List (Int × Int)) (v : Nat) (hs : List (Int × Int)) (x : Nat) : starL n es v hs x 0 = starB n es v hs x := by simp [starL, starT]
theorem starB_len (n : Int) (es : List (Int × Int)) (v : Nat) (hs : List (Int × Int)) (x : Nat) : (starB n es v hs x).length ≤ es.length + hs.length := by
  have h1 := woL_len (2 ^ v) 0 es
  have h2 := woL_len (2 ^ x) (n - 1) hs
  rw [starB, List.length_append]; omega
theorem starL_len (n : Int) (es : List (Int × Int)) (v : Nat) (hs : List (Int × Int)) (x k : Nat) : (starL n es v hs x k).length = (starB n es v hs x).length + k := by rw [starL, List.length_append, starT_len]
/-- The star product and the code. -/
def starV (n : Int) (es : List (Int × Int)) (v : Int) (m : Int) (hs : List (Int × Int)) (x : Int) : Int × List (Int × Int) × Int :=
  if (isGraphB n es && isGraphB m hs) = false then (0, [], 1) else if (inB v 0 (n - 1) && inB x 0 (m - 1)) = false then (0, [], 2) else if n = 2 ∨ m = 2 then (0, [], 5) else limV (n + m - 2) (starL n es v.toNat hs x.toNat 3)
end Go.Proofs.YtjgmoffkecnmcaaGreat
