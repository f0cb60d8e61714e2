/- The mirror image of a rotation has as many faces; the least genus, plain. No statement of the program is proved here. -/
import Derived.Test.YtigdfcigoejjjaaMi1
namespace Go.Proofs.Ytigdfcigoejjjaa
open Go.RowKit
set_option linter.unusedSimpArgs false
set_option linter.unusedVariables false
set_option maxRecDepth 20000

/-- The directed edge that goes back. -/
def revD (d : Nat) : Nat := if d % 2 = 0 then d + 1 else d - 1
theorem revD_revD (d : Nat) : revD (revD d) = d := by unfold revD; split <;> split <;> omega
theorem revD_lt {d L : Nat} (h : d < 2 * L) : revD d < 2 * L := by unfold revD; split <;> omega
theorem no_loop {n : Int} {es : List (Int × Int)} (h : isGraphB n es = true) {j : Nat} (hj : j < es.length) : (es.getD j (0, 0)).1 ≠ (es.getD j (0, 0)).2 := (isGraphB_ne h).2 j hj
theorem endD_rev {n : Int} {es : List (Int × Int)} (h : isGraphB n es = true) (rot : List Int) {d : Nat} (hd : d < 2 * es.length) : endD es (revD (nxD es rot d)) = endD es d ∧ revD (nxD es rot d) / 2 = nextE es rot d := by
  obtain ⟨h1, h2⟩ := nextE_lt h rot hd
  rw [onB_or] at h2
  obtain ⟨ne, hne⟩ : ∃ ne, nextE es rot d = ne := ⟨_, rfl⟩
  have hA := nxD_alt h rot hd
  rw [hne] at h1 h2 hA ⊢
  have hl := no_loop h h1
  by_cases e : (es.getD ne (0, 0)).1 = endD es d
  · rw [hA.1 e]
    have e1 : revD (2 * ne) = 2 * ne + 1 := by unfold revD; rw [if_pos (by omega)]
    rw [e1]
    refine ⟨?_, by omega⟩
    rw [endD, if_pos (by omega), show (2 * ne + 1) / 2 = ne by omega, e]
  · rw [hA.2 e]
    have e1 : revD (2 * ne + 1) = 2 * ne := by unfold revD; rw [if_neg (by omega)]; omega
    rw [e1]
    refine ⟨?_, by omega⟩
    rw [endD, if_neg (by omega), show 2 * ne / 2 = ne by omega]
    rcases h2 with h2 | h2
    · exact absurd h2 e
    · exact h2
theorem three_inj {n : Int} {es : List (Int × Int)} (h : isGraphB n es = true) {d : Nat} (hd : d < 2 * es.length) {X : List Int} (hX : atL es (endD es d) = X) {i j : Nat} (hi : i < 3) (hj : j < 3) (he : X.getD i 0 = X.getD j 0) : i = j := by
  obtain ⟨a, b, c, hat, hab, hbc, hcl, _⟩ := atL_three h (endD_in h hd)
  rw [hat] at hX
  subst hX
  have hi' : i = 0 ∨ i = 1 ∨ i = 2 := by omega
  have hj' : j = 0 ∨ j = 1 ∨ j = 2 := by omega
  rcases hi' with rfl | rfl | rfl <;> rcases hj' with rfl | rfl | rfl <;> simp at he <;> omega
theorem mirror {n : Int} {es : List (Int × Int)} (h : isGraphB n es = true) {rot rot' : List Int} (hr : IsRot n rot) (hr' : IsRot n rot') (hsum : ∀ v, v < n.toNat → rot.getD v 0 + rot'.getD v 0 = 1) {d : Nat} (hd : d < 2 * es.length) :
    nxD es rot' (revD (nxD es rot d)) = revD d := by
  have hd' := revD_lt (nxD_lt h rot hd)
  obtain ⟨he, hq⟩ := endD_rev h rot hd
  obtain ⟨X, p, v, r, hX, hX3, hp, hXp, hXn, hXi, hv, hvn, hrv, hr2, hnx⟩ := pos_facts h hr hd
  obtain ⟨X', p', v', r', hX', hX3', hp', hXp', hXn', hXi', hv', hvn', hrv', hr2', hnx'⟩ := pos_facts h hr' hd'
  have e1 : X' = X := by rw [← hX', ← hX, he]
  subst e1
  have e2 : v' = v := by rw [he, hv] at hv'; omega
  subst e2
  have hs := hsum v' hvn
  rw [hrv, hrv'] at hs
  rw [hq, hnx] at hXp'
  have e3 : p' = (p + 1 + r) % 3 := three_inj h hd hX hp' (Nat.mod_lt _ (by decide)) hXp'
  have e4 : (p' + 1 + r') % 3 = p := by omega
  rw [e4, hXp] at hnx'
  have e5 : nextE es rot' (revD (nxD es rot d)) = d / 2 := by omega
  have hA := nxD_alt h rot' hd'
  rw [e5, he] at hA
  have hl := no_loop h (show d / 2 < es.length by omega)
  unfold revD
  by_cases e : d % 2 = 0
  · rw [if_pos e]
    have e6 : endD es d = (es.getD (d / 2) (0, 0)).2 := by rw [endD, if_neg (by omega)]
    have := hA.2 (by rw [e6]; exact hl)
    show nxD es rot' (revD (nxD es rot d)) = _
    rw [this]; omega
  · rw [if_neg e]
    have e6 : endD es d = (es.getD (d / 2) (0, 0)).1 := by rw [endD, if_pos (by omega)]
    have := hA.1 e6.symm
    show nxD es rot' (revD (nxD es rot d)) = _
    rw [this]; omega
theorem mirror_reach {nx nx' : Nat → Nat} {m : Nat} (hlt : ∀ d, d < m → nx d < m) (hm : ∀ d, d < m → nx' (revD (nx d)) = revD d) {a b : Nat} (ha : a < m) (h : Reach nx a b) : Reach nx' (revD b) (revD a) := by
  obtain ⟨i, rfl⟩ := h
  induction i with
  | zero => exact Reach.refl _ _
  | succ i ih =>
    rw [it_succ]
    have h1 := hm (it nx i a) (it_lt hlt i a ha)
    exact Reach.trans ⟨1, h1⟩ ih
theorem mirror_le {n : Int} {es : List (Int × Int)} (h : isGraphB n es = true) {rot rot' : List Int} (hr : IsRot n rot) (hr' : IsRot n rot') (hsum : ∀ v, v < n.toNat → rot.getD v 0 + rot'.getD v 0 = 1) : (facesV es rot).length ≤ (facesV es rot').length := by
  have hl : ∀ d, d < 2 * es.length → nxD es rot d < 2 * es.length := fun d hd => nxD_lt h rot hd
  have hl' : ∀ d, d < 2 * es.length → nxD es rot' d < 2 * es.length := fun d hd => nxD_lt h rot' hd
  have m1 : ∀ d, d < 2 * es.length → nxD es rot' (revD (nxD es rot d)) = revD d := fun d hd => mirror h hr hr' hsum hd
  have m2 : ∀ d, d < 2 * es.length → nxD es rot (revD (nxD es rot' d)) = revD d := fun d hd => mirror h hr' hr (fun v hv => by have := hsum v hv; omega) hd
  have inj : ∀ (nx nx' : Nat → Nat), (∀ d, d < 2 * es.length → nx' (revD (nx d)) = revD d) → ∀ a b, a < 2 * es.length → b < 2 * es.length → nx a = nx b → a = b := by
    intro nx nx' hm a b ha hb e
    have h1 := hm a ha
    rw [e, hm b hb] at h1
    have := congrArg revD h1
    rw [revD_revD, revD_revD] at this
    exact this.symm
  have s1 : ∀ a b, a < 2 * es.length → Reach (nxD es rot) a b → Reach (nxD es rot) b a := fun a b ha hab => Reach.symm hl (inj _ _ m1) ha hab
  have s2 : ∀ a b, a < 2 * es.length → Reach (nxD es rot') a b → Reach (nxD es rot') b a := fun a b ha hab => Reach.symm hl' (inj _ _ m2) ha hab
  unfold facesV
  rw [facesT_count hl _ (Nat.le_refl _), facesT_count hl' _ (Nat.le_refl _)]
  refine firsts_le s1 s2 hl' revD (fun a ha => revD_lt ha) fun a b ha hb hab => ?_
  have h1 := mirror_reach hl' m2 (revD_lt ha) hab
  rw [revD_revD, revD_revD] at h1
  exact s1 _ _ hb h1
theorem mirror_eq {n : Int} {es : List (Int × Int)} (h : isGraphB n es = true) {rot rot' : List Int} (hr : IsRot n rot) (hr' : IsRot n rot') (hsum : ∀ v, v < n.toNat → rot.getD v 0 + rot'.getD v 0 = 1) : genV n es rot = genV n es rot' := by
  have h1 := mirror_le h hr hr' hsum
  have h2 := mirror_le h hr' hr (fun v hv => by have := hsum v hv; omega)
  unfold genV
  rw [show (facesV es rot).length = (facesV es rot').length by omega]
/-- The rotation whose 1s are a number's bits. -/
def rotS (N s : Nat) : List Int := (List.range N).map fun v => if s.testBit v then (1 : Int) else 0
theorem rotS_len (N s : Nat) : (rotS N s).length = N := by simp [rotS]
theorem rotS_get {N s v : Nat} (hv : v < N) : (rotS N s).getD v 0 = if s.testBit v then 1 else 0 := by simp [rotS, List.getD, hv]
theorem rotS_is {n : Int} (s : Nat) : IsRot n (rotS n.toNat s) := by
  refine ⟨rotS_len _ _, fun v hv => ?_⟩
  rw [rotS_get hv]
  split
  · exact .inr rfl
  · exact .inl rfl
/-- The least genus of the rotations of numbers below k. -/
def leastT (n : Int) (es : List (Int × Int)) : Nat → Int
  | 0 => n
  | k + 1 => min (leastT n es k) (genV n es (rotS n.toNat k))
theorem leastT_le (n : Int) (es : List (Int × Int)) : ∀ {k s : Nat}, s < k → leastT n es k ≤ genV n es (rotS n.toNat s)
  | 0, s, h => by omega
  | k + 1, s, h => by
    rw [leastT]
    by_cases e : s = k
    · subst e; omega
    · have := leastT_le n es (k := k) (s := s) (by omega); omega
theorem leastT_same {n : Int} {es : List (Int × Int)} {k : Nat} : ∀ (t : Nat), (∀ s, k ≤ s → s < k + t → leastT n es k ≤ genV n es (rotS n.toNat s)) → leastT n es (k + t) = leastT n es k
  | 0, _ => rfl
  | t + 1, h => by
    have ih := leastT_same t (fun s h1 h2 => h s h1 (by omega))
    have h1 := h (k + t) (by omega) (by omega)
    have e : leastT n es (k + (t + 1)) = min (leastT n es (k + t)) (genV n es (rotS n.toNat (k + t))) := rfl
    rw [e, ih]; omega
theorem leastT_half {n : Int} {es : List (Int × Int)} (h : isGraphB n es = true) : leastT n es (2 ^ n.toNat) = leastT n es (2 ^ (n.toNat - 1)) := by
  have hn := isGraphB_n h
  have hp : 2 ^ n.toNat = 2 ^ (n.toNat - 1) + 2 ^ (n.toNat - 1) := by
    obtain ⟨m, hm⟩ : ∃ m, n.toNat = m + 1 := ⟨n.toNat - 1, by omega⟩
    rw [hm, Nat.add_sub_cancel, Nat.pow_succ]; omega
  rw [hp]
  refine leastT_same _ fun s h1 h2 => ?_
  have hs : s < 2 ^ n.toNat := by omega
  have hm := mirror_eq (n := n) (es := es) h (rotS_is s) (rotS_is (2 ^ n.toNat - 1 - s)) fun v hv => by
    rw [rotS_get hv, rotS_get hv, Nat.sub_sub, Nat.add_comm 1 s, Nat.testBit_two_pow_sub_succ hs]
    cases s.testBit v <;> simp [hv]
  rw [hm]
  exact leastT_le n es (by omega)
end Go.Proofs.Ytigdfcigoejjjaa
