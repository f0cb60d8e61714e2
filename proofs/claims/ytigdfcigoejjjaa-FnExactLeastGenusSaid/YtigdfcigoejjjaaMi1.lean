/- Faces are the cycles of a permutation; the mirror image of a rotation has as many. No statement of the program is proved here. -/
import Derived.Test.YtigdfcigoejjjaaGe1
namespace Go.Proofs.Ytigdfcigoejjjaa
open Go.RowKit
set_option linter.unusedSimpArgs false
set_option linter.unusedVariables false
set_option maxRecDepth 20000

theorem nodup_len {l : List Nat} : ∀ {l' : List Nat}, l.Nodup → (∀ x ∈ l, x ∈ l') → l.length ≤ l'.length := by
  induction l with
  | nil => intro l' _ _; simp
  | cons a l ih =>
    intro l' h hs
    obtain ⟨h1, h2⟩ := List.nodup_cons.1 h
    have ha : a ∈ l' := hs a (by simp)
    have h3 := ih (l' := l'.erase a) h2 (fun x hx => (List.mem_erase_of_ne (by rintro rfl; exact h1 hx)).2 (hs x (by simp [hx])))
    rw [List.length_erase_of_mem ha] at h3
    have := List.length_pos_of_mem ha
    simp only [List.length_cons]; omega
/-- i steps. -/
def it (nx : Nat → Nat) : Nat → Nat → Nat
  | 0, a => a
  | i + 1, a => it nx i (nx a)
theorem it_add (nx : Nat → Nat) (j : Nat) : ∀ (i a : Nat), it nx (i + j) a = it nx j (it nx i a)
  | 0, a => by rw [Nat.zero_add]; rfl
  | i + 1, a => by rw [show i + 1 + j = (i + j) + 1 by omega]; exact it_add nx j i (nx a)
theorem it_succ (nx : Nat → Nat) (i a : Nat) : it nx (i + 1) a = nx (it nx i a) := it_add nx 1 i a
def Reach (nx : Nat → Nat) (a b : Nat) : Prop := ∃ i, it nx i a = b
theorem Reach.refl (nx : Nat → Nat) (a : Nat) : Reach nx a a := ⟨0, rfl⟩
theorem Reach.trans {nx : Nat → Nat} {a b c : Nat} (h : Reach nx a b) (k : Reach nx b c) : Reach nx a c := by
  obtain ⟨i, rfl⟩ := h
  obtain ⟨j, rfl⟩ := k
  exact ⟨i + j, it_add nx j i a⟩
theorem Reach.one (nx : Nat → Nat) (a : Nat) : Reach nx a (nx a) := ⟨1, rfl⟩
theorem it_lt {nx : Nat → Nat} {n : Nat} (hnx : ∀ d, d < n → nx d < n) : ∀ (i a : Nat), a < n → it nx i a < n
  | 0, _, h => h
  | i + 1, a, h => it_lt hnx i (nx a) (hnx a h)
theorem it_inj {nx : Nat → Nat} {n : Nat} (hnx : ∀ d, d < n → nx d < n) (hinj : ∀ a b, a < n → b < n → nx a = nx b → a = b) : ∀ (i a b : Nat), a < n → b < n → it nx i a = it nx i b → a = b
  | 0, _, _, _, _, h => h
  | i + 1, a, b, ha, hb, h => hinj a b ha hb (it_inj hnx hinj i (nx a) (nx b) (hnx a ha) (hnx b hb) h)
theorem it_mul {nx : Nat → Nat} {m a : Nat} (h : it nx m a = a) : ∀ p, it nx (p * m) a = a
  | 0 => by rw [Nat.zero_mul]; rfl
  | p + 1 => by rw [Nat.add_mul, Nat.one_mul, it_add, it_mul h p, h]
/-- Along a permutation every way leads back. -/
theorem Reach.symm {nx : Nat → Nat} {n : Nat} (hnx : ∀ d, d < n → nx d < n) (hinj : ∀ a b, a < n → b < n → nx a = nx b → a = b) {a b : Nat} (ha : a < n) (h : Reach nx a b) : Reach nx b a := by
  have hper : ∃ m, 0 < m ∧ it nx m a = a := by
    apply Classical.byContradiction
    intro hno
    have hnd : ((List.range (n + 1)).map fun i => it nx i a).Nodup := by
      rw [List.Nodup, List.pairwise_map]
      refine List.Pairwise.imp_of_mem ?_ (List.pairwise_lt_range (n := n + 1))
      intro i j hi hj hij he
      refine hno ⟨j - i, by omega, ?_⟩
      have h2 : it nx j a = it nx i (it nx (j - i) a) := by
        rw [← it_add nx i (j - i) a]; congr 1; omega
      exact (it_inj hnx hinj i a (it nx (j - i) a) ha (it_lt hnx _ _ ha) (he.trans h2)).symm
    have := nodup_len hnd (l' := List.range n) (fun x hx => by
      rw [List.mem_map] at hx
      obtain ⟨i, _, rfl⟩ := hx
      rw [List.mem_range]; exact it_lt hnx i a ha)
    simp at this
    omega
  obtain ⟨m, hm, hma⟩ := hper
  obtain ⟨i, rfl⟩ := h
  refine ⟨(i + 1) * m - i, ?_⟩
  have h1 : i ≤ (i + 1) * m := Nat.le_trans (Nat.le_succ i) (Nat.le_mul_of_pos_right _ hm)
  rw [← it_add, show i + ((i + 1) * m - i) = (i + 1) * m by omega]
  exact it_mul hma _
/-- One run marks what can be reached. -/
theorem runF_marks {nx : Nat → Nat} {n : Nat} (hnx : ∀ d, d < n → nx d < n) (met0 : List Bool) (d0 : Nat) (hd0 : d0 < n) : ∀ (k : Nat) (met : List Bool) (face : List Int) (d : Nat), met.length = n → d < n → openN met ≤ k →
    (∀ u, u < n → met0.getD u true = true → met.getD u true = true) → (∀ u, u < n → met.getD u true = true → met0.getD u true = true ∨ Reach nx d0 u) → (∀ u, u < n → met.getD u true = true → met.getD (nx u) true = true ∨ nx u = d) →
    (met.getD d0 true = true ∨ d = d0) → Reach nx d0 d → ∀ u, u < n → ((runF nx k met face d).1.getD u true = true ↔ (met0.getD u true = true ∨ Reach nx d0 u)) := by
  intro k
  have stop : ∀ (met : List Bool) (d : Nat), met.length = n → met.getD d true = true → (∀ u, u < n → met0.getD u true = true → met.getD u true = true) → (∀ u, u < n → met.getD u true = true → met0.getD u true = true ∨ Reach nx d0 u) → (∀ u, u < n → met.getD u true = true → met.getD (nx u) true = true ∨ nx u = d) →
      (met.getD d0 true = true ∨ d = d0) → ∀ u, u < n → (met.getD u true = true ↔ (met0.getD u true = true ∨ Reach nx d0 u)) := by
    intro met d hl hd h1 h2 h3 h4 u hu
    refine ⟨h2 u hu, fun h => ?_⟩
    rcases h with h | ⟨i, rfl⟩
    · exact h1 u hu h
    · have hall : ∀ i, met.getD (it nx i d0) true = true := by
        intro i
        induction i with
        | zero =>
          rcases h4 with h4 | h4
          · exact h4
          · rw [h4] at hd; exact hd
        | succ i ih =>
          rw [it_succ]
          rcases h3 _ (it_lt hnx i d0 hd0) ih with h5 | h5
          · exact h5
          · rw [h5]; exact hd
      exact hall i
  induction k with
  | zero =>
    intro met face d hl hd hk h1 h2 h3 h4 h5
    have hmd : met.getD d true = true := by
      cases h : met.getD d true
      · have := openN_pos (by omega : d < met.length) h; omega
      · rfl
    rw [runF_stop hmd]
    exact stop met d hl hmd h1 h2 h3 h4
  | succ k ih =>
    intro met face d hl hd hk h1 h2 h3 h4 h5
    cases hmd : met.getD d true
    · rw [runF_go hmd]
      have hget : ∀ u, (met.set d true).getD u true = if u = d then true else met.getD u true := by
        intro u
        by_cases e : u = d
        · subst e; rw [if_pos rfl]; simp [List.getD, show u < met.length by omega]
        · rw [if_neg e]; simp [List.getD, List.getElem?_set_ne (Ne.symm e)]
      refine ih _ _ _ (by rw [List.length_set]; exact hl) (hnx d hd) (by have := openN_set (by omega : d < met.length) hmd; omega) ?_ ?_ ?_ ?_ (h5.trans (Reach.one nx d))
      · intro u hu h
        rw [hget]; split
        · rfl
        · exact h1 u hu h
      · intro u hu h
        rw [hget] at h
        by_cases e : u = d
        · subst e; exact .inr h5
        · rw [if_neg e] at h; exact h2 u hu h
      · intro u hu h
        rw [hget] at h
        by_cases e : u = d
        · subst e; exact .inr rfl
        · rw [if_neg e] at h
          left
          rw [hget]
          rcases h3 u hu h with h6 | h6
          · split
            · rfl
            · exact h6
          · rw [if_pos h6]
      · left
        rw [hget]
        rcases h4 with h4 | h4
        · split
          · rfl
          · exact h4
        · rw [if_pos h4.symm]
    · rw [runF_stop hmd]
      exact stop met d hl hmd h1 h2 h3 h4
theorem facesT_marks {nx : Nat → Nat} {n : Nat} (hnx : ∀ d, d < n → nx d < n) : ∀ k, k ≤ n → ∀ u, u < n → ((facesT nx n k).1.getD u true = true ↔ ∃ v, v < k ∧ Reach nx v u)
  | 0, _, u, hu => by
    constructor
    · intro h
      simp [facesT, List.getD, hu] at h
    · rintro ⟨v, hv, _⟩; omega
  | k + 1, hk, u, hu => by
    have ih := facesT_marks hnx k (by omega)
    have hlen := facesT_len nx n k
    have hs := facesT_step nx n k
    have hor : (∃ v, v < k + 1 ∧ Reach nx v u) ↔ ((∃ v, v < k ∧ Reach nx v u) ∨ Reach nx k u) := by
      constructor
      · rintro ⟨v, hv, h⟩
        by_cases e : v = k
        · subst e; exact .inr h
        · exact .inl ⟨v, by omega, h⟩
      · rintro (⟨v, hv, h⟩ | h)
        · exact ⟨v, by omega, h⟩
        · exact ⟨k, by omega, h⟩
    rw [hor]
    cases hm : (facesT nx n k).1.getD k true
    · rw [hs.2 hm]
      have h9 := runF_marks hnx (facesT nx n k).1 k (by omega) n (facesT nx n k).1 [] k hlen (by omega) (by have := openN_le (facesT nx n k).1; omega) (fun _ _ h => h) (fun _ _ h => .inl h)
        (fun v hv h => .inl (by
          obtain ⟨x, hx, hr⟩ := (ih v hv).1 h
          exact (ih (nx v) (hnx v hv)).2 ⟨x, hx, hr.trans (Reach.one nx v)⟩)) (.inr rfl) (Reach.refl nx k) u hu
      show ((runF nx n (facesT nx n k).1 [] k).1.getD u true = true) ↔ _
      rw [h9, ih u hu]
    · rw [hs.1 hm, ih u hu]
      refine ⟨.inl, fun h => ?_⟩
      rcases h with h | h
      · exact h
      · obtain ⟨v, hv, hr⟩ := (ih k (by omega)).1 hm
        exact ⟨v, hv, hr.trans h⟩
/-- The first of its cycle. -/
def First (nx : Nat → Nat) (v : Nat) : Prop := ∀ u, u < v → ¬ Reach nx u v
open Classical in
noncomputable def firsts (nx : Nat → Nat) (n : Nat) : List Nat := (List.range n).filter fun v => decide (First nx v)
theorem facesT_count {nx : Nat → Nat} {n : Nat} (hnx : ∀ d, d < n → nx d < n) : ∀ k, k ≤ n → (facesT nx n k).2.length = (firsts nx k).length
  | 0, _ => by simp [facesT, firsts]
  | k + 1, hk => by
    classical
    have ih := facesT_count hnx k (by omega)
    have hs := facesT_step nx n k
    have hm := facesT_marks hnx k (by omega) k (by omega)
    have e : firsts nx (k + 1) = firsts nx k ++ (if First nx k then [k] else []) := by
      unfold firsts
      rw [List.range_succ, List.filter_append]
      congr 1
      by_cases h : First nx k
      · rw [if_pos h]; simp [h]
      · rw [if_neg h]; simp [h]
    rw [e, List.length_append, ← ih]
    cases hq : (facesT nx n k).1.getD k true
    · have hF : First nx k := fun u hu hr => by
        have := hm.2 ⟨u, hu, hr⟩
        rw [hq] at this; cases this
      rw [hs.2 hq, if_pos hF]
      simp
    · have hF : ¬ First nx k := fun h => by
        obtain ⟨v, hv, hr⟩ := hm.1 hq
        exact h v hv hr
      rw [hs.1 hq, if_neg hF]
      simp
/-- A map that keeps cycles apart. -/
theorem firsts_le {nx nx' : Nat → Nat} {n : Nat} (hs : ∀ a b, a < n → Reach nx a b → Reach nx b a) (hs' : ∀ a b, a < n → Reach nx' a b → Reach nx' b a) (hlt' : ∀ d, d < n → nx' d < n) (f : Nat → Nat) (hf : ∀ a, a < n → f a < n)
    (h : ∀ a b, a < n → b < n → Reach nx' (f a) (f b) → Reach nx a b) : (firsts nx n).length ≤ (firsts nx' n).length := by
  classical
  have hleast : ∀ v, v < n → ∃ u, u < n ∧ First nx' u ∧ Reach nx' u (f v) := by
    intro v hv
    have key : ∀ m, ∀ u, u ≤ m → u < n → Reach nx' u (f v) → ∃ u, u < n ∧ First nx' u ∧ Reach nx' u (f v) := by
      intro m
      induction m with
      | zero =>
        intro u hu hun hr
        exact ⟨u, hun, fun x hx => by omega, hr⟩
      | succ m ih =>
        intro u hu hun hr
        by_cases hF : First nx' u
        · exact ⟨u, hun, hF, hr⟩
        · have : ∃ x, x < u ∧ Reach nx' x u := by
            apply Classical.byContradiction
            intro hno
            exact hF fun x hx hxr => hno ⟨x, hx, hxr⟩
          obtain ⟨x, hx, hxr⟩ := this
          exact ih x (by omega) (by omega) (hxr.trans hr)
    exact key (f v) (f v) (Nat.le_refl _) (hf v hv) (Reach.refl _ _)
  let g : Nat → Nat := fun v => if hv : v < n then Classical.choose (hleast v hv) else 0
  have hg : ∀ v, v < n → g v < n ∧ First nx' (g v) ∧ Reach nx' (g v) (f v) := by
    intro v hv
    have := Classical.choose_spec (hleast v hv)
    simp only [g, dif_pos hv]
    exact this
  have hmem : ∀ v, v ∈ firsts nx n ↔ v < n ∧ First nx v := by
    intro v; simp [firsts]
  have hmem' : ∀ v, v ∈ firsts nx' n ↔ v < n ∧ First nx' v := by
    intro v; simp [firsts]
  have hnd : ((firsts nx n).map g).Nodup := by
    rw [List.Nodup, List.pairwise_map]
    have hp : (firsts nx n).Pairwise (· < ·) := List.Pairwise.filter _ List.pairwise_lt_range
    refine List.Pairwise.imp_of_mem ?_ hp
    intro a b ha hb hab he
    obtain ⟨ha1, ha2⟩ := (hmem a).1 ha
    obtain ⟨hb1, hb2⟩ := (hmem b).1 hb
    obtain ⟨g1, g2, g3⟩ := hg a ha1
    obtain ⟨g4, g5, g6⟩ := hg b hb1
    have h1 := hs' _ _ g1 g3
    rw [he] at h1
    exact hb2 a hab (h a b ha1 hb1 (h1.trans g6))
  have := nodup_len hnd (l' := firsts nx' n) (fun x hx => by
    rw [List.mem_map] at hx
    obtain ⟨v, hv, rfl⟩ := hx
    obtain ⟨hv1, _⟩ := (hmem v).1 hv
    obtain ⟨g1, g2, _⟩ := hg v hv1
    exact (hmem' _).2 ⟨g1, g2⟩)
  rwa [List.length_map] at this
end Go.Proofs.Ytigdfcigoejjjaa
