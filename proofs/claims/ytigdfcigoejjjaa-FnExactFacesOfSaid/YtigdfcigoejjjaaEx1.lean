/- All sets of edges, and how many edges and sides each has: the plain law. No statement of the program is proved here. -/
import Derived.Test.YtigdfcigoejjjaaNe2
namespace Go.Proofs.Ytigdfcigoejjjaa
open Go.RowKit
set_option linter.unusedSimpArgs false
set_option linter.unusedVariables false
set_option maxRecDepth 20000

/-- One name in another's place. -/
def mergeL (f t : Int) (x : List Int) : List Int := x.map fun y => if y = f then t else y
theorem mergeL_len (f t : Int) (x : List Int) : (mergeL f t x).length = x.length := by simp [mergeL]
theorem mergeL_getD {f t : Int} {x : List Int} {u : Nat} (hu : u < x.length) : (mergeL f t x).getD u 0 = if x.getD u 0 = f then t else x.getD u 0 := by simp [mergeL, List.getD, hu]
/-- The number of edges and sides of each set of the edges from i on, r of them. -/
def leafs (mx : Bool) (es : List (Int × Int)) : Nat → Nat → List Int → Int → Int → List (Int × Int)
  | 0, _, _, k, s => [(k, s)]
  | r + 1, i, x, k, s => leafs mx es r (i + 1) x k s ++
      (if x.getD (es.getD i (0, 0)).1.toNat 0 = x.getD (es.getD i (0, 0)).2.toNat 0 then leafs mx es r (i + 1) x (k + 1) s
       else leafs mx es r (i + 1) (if mx = true then mergeL (max (x.getD (es.getD i (0, 0)).1.toNat 0) (x.getD (es.getD i (0, 0)).2.toNat 0)) (min (x.getD (es.getD i (0, 0)).1.toNat 0) (x.getD (es.getD i (0, 0)).2.toNat 0)) x
          else mergeL (x.getD (es.getD i (0, 0)).2.toNat 0) (x.getD (es.getD i (0, 0)).1.toNat 0) x) (k + 1) (s - 1))
/-- Two lists of names tell the same sides. -/
def SameP (x y : List Int) : Prop := x.length = y.length ∧ ∀ u v, u < x.length → v < x.length → (x.getD u 0 = x.getD v 0 ↔ y.getD u 0 = y.getD v 0)
theorem merge_iff {f t : Int} {x : List Int} {u v : Nat} (hft : f ≠ t) (hu : u < x.length) (hv : v < x.length) :
    (mergeL f t x).getD u 0 = (mergeL f t x).getD v 0 ↔ (x.getD u 0 = x.getD v 0 ∨ ((x.getD u 0 = f ∨ x.getD u 0 = t) ∧ (x.getD v 0 = f ∨ x.getD v 0 = t))) := by
  rw [mergeL_getD hu, mergeL_getD hv]
  split <;> split <;> omega
theorem SameP.merge {x y : List Int} (h : SameP x y) {p q : Nat} (hp : p < x.length) (hq : q < x.length) (hne : x.getD p 0 ≠ x.getD q 0) :
    SameP (mergeL (x.getD q 0) (x.getD p 0) x) (mergeL (max (y.getD p 0) (y.getD q 0)) (min (y.getD p 0) (y.getD q 0)) y) := by
  obtain ⟨hl, hs⟩ := h
  have hne2 : y.getD p 0 ≠ y.getD q 0 := fun e => hne ((hs p q hp hq).2 e)
  refine ⟨by rw [mergeL_len, mergeL_len, hl], fun u v hu hv => ?_⟩
  rw [mergeL_len] at hu hv
  rw [merge_iff (Ne.symm hne) hu hv, merge_iff (by omega) (by omega) (by omega)]
  have a1 := hs u v hu hv
  have a2 := hs u p hu hp
  have a3 := hs u q hu hq
  have a4 := hs v p hv hp
  have a5 := hs v q hv hq
  rw [a1, a2, a3, a4, a5]
  have e1 : ∀ z : Int, (z = max (y.getD p 0) (y.getD q 0) ∨ z = min (y.getD p 0) (y.getD q 0)) ↔ (z = y.getD q 0 ∨ z = y.getD p 0) := fun z => by omega
  rw [e1, e1]
theorem leafs_same {n : Nat} {es : List (Int × Int)} (hin : InN n es) : ∀ (r i : Nat) (x y : List Int) (k s : Int), i + r = es.length → x.length = n → SameP x y → leafs false es r i x k s = leafs true es r i y k s
  | 0, _, _, _, _, _, _, _, _ => rfl
  | r + 1, i, x, y, k, s, hi, hn, h => by
    obtain ⟨a, b, hab, ha, hb⟩ := hin i (by omega)
    simp only [leafs, hab, Int.toNat_natCast]
    have hs := h.2 a b (by omega) (by omega)
    rw [leafs_same hin r (i + 1) x y k s (by omega) hn h]
    by_cases e : x.getD a 0 = x.getD b 0
    · rw [if_pos e, if_pos (hs.1 e), leafs_same hin r (i + 1) x y (k + 1) s (by omega) hn h]
    · rw [if_neg e, if_neg (fun e2 => e (hs.2 e2))]
      simp only [Bool.false_eq_true, if_false, if_true]
      rw [leafs_same hin r (i + 1) _ _ (k + 1) (s - 1) (by omega) (by rw [mergeL_len]; exact hn) (h.merge (by omega) (by omega) e)]

/-- What holds at each set: k edges below i, s sides of n vertices. -/
def OkL (n i : Nat) (k s : Int) : Prop := 0 ≤ k ∧ k ≤ i ∧ (n : Int) - i ≤ s ∧ s ≤ n ∧ (n : Int) ≤ k + s
theorem OkL.skip {n i : Nat} {k s : Int} (h : OkL n i k s) : OkL n (i + 1) k s := by unfold OkL at *; omega
theorem OkL.take {n i : Nat} {k s : Int} (h : OkL n i k s) : OkL n (i + 1) (k + 1) s := by unfold OkL at *; omega
theorem OkL.join {n i : Nat} {k s : Int} (h : OkL n i k s) : OkL n (i + 1) (k + 1) (s - 1) := by unfold OkL at *; omega
/-- Some edge was taken: then it joined two sides. -/
def Ok2 (n : Nat) (x : List Int) (k s : Int) : Prop := (k = 0 ∧ s = n ∧ x = idx n) ∨ (0 < k ∧ s < n)
theorem leafs_ok {n : Nat} {es : List (Int × Int)} (mx : Bool) (hin : InN n es) (hne : ∀ j, j < es.length → (es.getD j (0, 0)).1 ≠ (es.getD j (0, 0)).2) :
    ∀ (r i : Nat) (x : List Int) (k s : Int), i + r = es.length → OkL n i k s → Ok2 n x k s → ∀ p ∈ leafs mx es r i x k s, OkL n es.length p.1 p.2 ∧ (0 < p.1 → p.2 < n) ∧ (p.1 = 0 → p.2 = n)
  | 0, i, x, k, s, hi, h1, h2 => by
    intro p hp
    simp only [leafs, List.mem_singleton] at hp
    subst hp
    obtain rfl : i = es.length := by omega
    refine ⟨h1, ?_, ?_⟩ <;> (unfold Ok2 at h2; omega)
  | r + 1, i, x, k, s, hi, h1, h2 => by
    intro p hp
    obtain ⟨a, b, hab, ha, hb⟩ := hin i (by omega)
    have hne' := hne i (by omega)
    simp only [leafs, hab, Int.toNat_natCast] at hp hne'
    rw [List.mem_append] at hp
    rcases hp with hp | hp
    · exact leafs_ok mx hin hne r (i + 1) x k s (by omega) h1.skip h2 p hp
    · by_cases e : x.getD a 0 = x.getD b 0
      · rw [if_pos e] at hp
        refine leafs_ok mx hin hne r (i + 1) x (k + 1) s (by omega) h1.take ?_ p hp
        rcases h2 with ⟨h3, h4, h5⟩ | ⟨h3, h4⟩
        · subst h5
          rw [idx_getD n a ha, idx_getD n b hb] at e
          exact absurd e hne'
        · exact .inr ⟨by omega, h4⟩
      · rw [if_neg e] at hp
        refine leafs_ok mx hin hne r (i + 1) _ (k + 1) (s - 1) (by omega) h1.join (.inr ⟨?_, ?_⟩) p hp
        · unfold OkL at h1; omega
        · unfold OkL at h1; omega

/-- How many are as told. -/
def cntL (p : Int × Int → Bool) (xs : List (Int × Int)) (c : Int) : Int := xs.foldl (fun acc x => if p x = true then wrap64 (acc + 1) else acc) c
/-- What a set adds to the reference's numbers. -/
def stepS (m n : Nat) (acc : List Int) (x : Int × Int) : List Int :=
  let a1 := acc.set (x.1 - n + x.2).toNat (wrap64 (acc.getD (x.1 - n + x.2).toNat 0 + (if ((m : Int) - x.1).tmod 2 ≠ 0 then -1 else 1)))
  let a2 := if x.1 - n + x.2 = 0 then a1.set m (wrap64 (a1.getD m 0 + 1)) else a1
  if x.2 = 1 then a2.set (m + 1) (wrap64 (a2.getD (m + 1) 0 + 1)) else a2
theorem stepS_len (m n : Nat) (acc : List Int) (x : Int × Int) : (stepS m n acc x).length = acc.length := by
  unfold stepS; dsimp only; split <;> split <;> simp
theorem getD_set_ne {xs : List Int} {i j : Nat} {v : Int} (h : i ≠ j) : (xs.set i v).getD j 0 = xs.getD j 0 := by simp [List.getD, List.getElem?_set_ne h]
theorem getD_set_eq {xs : List Int} {i : Nat} {v : Int} (h : i < xs.length) : (xs.set i v).getD i 0 = v := by simp [List.getD, h]
theorem fold_conn (m n : Nat) : ∀ (xs : List (Int × Int)) (acc : List Int), acc.length = m + 2 → (∀ p ∈ xs, (p.1 - n + p.2).toNat < m) → (xs.foldl (stepS m n) acc).getD (m + 1) 0 = cntL (fun x => decide (x.2 = 1)) xs (acc.getD (m + 1) 0)
  | [], _, _, _ => rfl
  | x :: xs, acc, hl, h => by
    have hx := h x (by simp)
    simp only [List.foldl_cons, cntL]
    rw [fold_conn m n xs _ (by rw [stepS_len]; exact hl) fun p hp => h p (by simp [hp])]
    simp only [cntL]
    congr 1
    unfold stepS; dsimp only
    by_cases e : x.2 = 1
    · rw [if_pos (c := x.2 = 1) e, if_pos (c := decide (x.2 = 1) = true) (by simpa using e), getD_set_eq (by split <;> simp <;> omega)]
      congr 2
      split
      · rw [getD_set_ne (by omega), getD_set_ne (by omega)]
      · rw [getD_set_ne (by omega)]
    · rw [if_neg (c := x.2 = 1) e, if_neg (c := decide (x.2 = 1) = true) (by simpa using e)]
      split
      · rw [getD_set_ne (by omega), getD_set_ne (by omega)]
      · rw [getD_set_ne (by omega)]
theorem fold_forest (m n : Nat) : ∀ (xs : List (Int × Int)) (acc : List Int), acc.length = m + 2 → (∀ p ∈ xs, (p.1 - n + p.2).toNat < m) → (xs.foldl (stepS m n) acc).getD m 0 = cntL (fun x => decide (x.1 + x.2 = n)) xs (acc.getD m 0)
  | [], _, _, _ => rfl
  | x :: xs, acc, hl, h => by
    have hx := h x (by simp)
    simp only [List.foldl_cons, cntL]
    rw [fold_forest m n xs _ (by rw [stepS_len]; exact hl) fun p hp => h p (by simp [hp])]
    simp only [cntL]
    congr 1
    unfold stepS; dsimp only
    have e0 : (x.1 - n + x.2 = 0) ↔ (x.1 + x.2 = (n : Int)) := by omega
    by_cases e : x.1 + x.2 = (n : Int)
    · rw [if_pos (c := x.1 - n + x.2 = 0) (e0.2 e), if_pos (c := decide (x.1 + x.2 = (n : Int)) = true) (by simpa using e)]
      have key : ∀ b1 : List Int, b1.length = m + 2 → b1.getD m 0 = acc.getD m 0 → ((b1.set m (wrap64 (b1.getD m 0 + 1)))).getD m 0 = wrap64 (acc.getD m 0 + 1) := fun b1 h1 h2 => by rw [getD_set_eq (by omega), h2]
      split
      · rw [getD_set_ne (by omega)]
        exact key _ (by simp; omega) (getD_set_ne (by omega))
      · exact key _ (by simp; omega) (getD_set_ne (by omega))
    · rw [if_neg (c := x.1 - n + x.2 = 0) (fun h => e (e0.1 h)), if_neg (c := decide (x.1 + x.2 = (n : Int)) = true) (by simpa using e)]
      split
      · rw [getD_set_ne (by omega), getD_set_ne (by omega)]
      · rw [getD_set_ne (by omega)]
end Go.Proofs.Ytigdfcigoejjjaa
