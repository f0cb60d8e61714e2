/- Matrices in memory: a slice of rows, each in a block of its own; a store, a swap of two rows. No statement of the program is proved here. -/
import Derived.Test.YtigdfcigoejjjaaCi2
namespace Go.Proofs.Ytigdfcigoejjjaa
open Go.RowKit
set_option linter.unusedSimpArgs false
set_option linter.unusedVariables false
set_option maxRecDepth 20000

/-- The n cells of block g from off on are rows of N ints; row i lies in block R i and reads as M i. -/
structure Mat (w : World) (g off n N : Nat) (R : Nat → Nat) (M : Nat → Nat → Int) : Prop where
  glt : g < w.heap.size
  rlt : ∀ i, i < n → R i < w.heap.size
  head : ∀ i, i < n → w.cell? ⟨g, off + i, none⟩ = some (.slice (some ⟨R i, 0, none⟩) N N)
  gfree : ∀ i, w.frozen? ⟨g, i, none⟩ = false
  cell : ∀ i, i < n → ∀ j, j < N → w.cell? ⟨R i, j, none⟩ = some (.int .i64 (M i j))
  free : ∀ i, i < n → ∀ j, w.frozen? ⟨R i, j, none⟩ = false
  apart : ∀ i j, i < n → j < n → R i = R j → i = j
  away : ∀ i, i < n → R i ≠ g

/-- The matrix with v at row i, column j. -/
def putM (M : Nat → Nat → Int) (i j : Nat) (v : Int) : Nat → Nat → Int := fun a b => if a = i ∧ b = j then v else M a b
/-- The family with places i and k exchanged. -/
def swapF {α : Type} (R : Nat → α) (i k : Nat) : Nat → α := fun a => if a = i then R k else if a = k then R i else R a

theorem sc_other {w : World} {a b : Addr} {v : Value} (h : a ≠ b) : (w.setCell a v).cell? b = w.cell? b := World.cell?_setCell_other _ _ _ _ h
theorem sc_same {w : World} {a : Addr} {v u : Value} (h : w.cell? a = some u) : (w.setCell a v).cell? a = some v := World.cell?_setCell_same _ _ _ h
theorem sc_frozen {w : World} {a b : Addr} {v : Value} : (w.setCell a v).frozen? b = w.frozen? b := World.frozen?_setCell _ _ _ _
theorem addr_ne {b o b' o' : Nat} (h : b ≠ b' ∨ o ≠ o') : (⟨b, o, none⟩ : Addr) ≠ ⟨b', o', none⟩ := by
  intro e; injection e with e1 e2; rcases h with h | h <;> contradiction

variable {w w' : World} {g off n N : Nat} {R : Nat → Nat} {M : Nat → Nat → Int}
theorem Mat.below (h : Mat w g off n N R M) {B : Nat} (hb : Below B w w') (hg : g < B) (hR : ∀ i, i < n → R i < B) : Mat w' g off n N R M where
  glt := Nat.lt_of_lt_of_le h.glt hb.size
  rlt i hi := Nat.lt_of_lt_of_le (h.rlt i hi) hb.size
  head i hi := (hb.cell (p := ⟨g, off + i, none⟩) hg).trans (h.head i hi)
  gfree i := (hb.frozen (p := ⟨g, i, none⟩) hg).trans (h.gfree i)
  cell i hi j hj := (hb.cell (p := ⟨R i, j, none⟩) (hR i hi)).trans (h.cell i hi j hj)
  free i hi j := (hb.frozen (p := ⟨R i, j, none⟩) (hR i hi)).trans (h.free i hi j)
  apart := h.apart
  away := h.away
theorem Mat.keep (h : Mat w g off n N R M) (hb : Below w.heap.size w w') : Mat w' g off n N R M := h.below hb h.glt h.rlt
theorem Mat.eq_ {M' : Nat → Nat → Int} (h : Mat w g off n N R M) (he : ∀ i j, i < n → j < N → M i j = M' i j) : Mat w g off n N R M' :=
  { h with cell := fun i hi j hj => by rw [← he i j hi hj]; exact h.cell i hi j hj }
theorem Mat.set (h : Mat w g off n N R M) {i j : Nat} (hi : i < n) (hj : j < N) (v : Int) : Mat (w.setCell ⟨R i, j, none⟩ (.int .i64 v)) g off n N R (putM M i j v) where
  glt := by simpa [World.setCell] using h.glt
  rlt k hk := by simpa [World.setCell] using h.rlt k hk
  head k hk := (sc_other (addr_ne (.inl (h.away i hi)))).trans (h.head k hk)
  gfree k := by rw [sc_frozen]; exact h.gfree k
  cell k hk l hl := by
    unfold putM
    by_cases e : k = i ∧ l = j
    · obtain ⟨rfl, rfl⟩ := e
      rw [if_pos ⟨rfl, rfl⟩]
      exact sc_same (h.cell k hk l hl)
    · rw [if_neg e]
      refine (sc_other (addr_ne ?_)).trans (h.cell k hk l hl)
      by_cases e1 : R i = R k
      · right
        have := h.apart i k hi hk e1
        intro e2
        exact e ⟨this.symm, e2.symm⟩
      · exact .inl e1
  free k hk l := by rw [sc_frozen]; exact h.free k hk l
  apart := h.apart
  away := h.away
/-- A store elsewhere. -/
theorem Mat.far (h : Mat w g off n N R M) {p : Addr} (hg : p.block ≠ g) (hR : ∀ i, i < n → p.block ≠ R i) (v : Value) : Mat (w.setCell p v) g off n N R M where
  glt := by simpa [World.setCell] using h.glt
  rlt k hk := by simpa [World.setCell] using h.rlt k hk
  head k hk := (sc_other (by intro e; rw [e] at hg; exact hg rfl)).trans (h.head k hk)
  gfree k := by rw [sc_frozen]; exact h.gfree k
  cell k hk l hl := (sc_other (by intro e; have := hR k hk; rw [e] at this; exact this rfl)).trans (h.cell k hk l hl)
  free k hk l := by rw [sc_frozen]; exact h.free k hk l
  apart := h.apart
  away := h.away
theorem swapF_same {α : Type} (R : Nat → α) (i : Nat) : swapF R i i = R := by
  funext a; unfold swapF; by_cases e : a = i <;> simp [e]
/-- Two rows exchanged, by two stores. -/
theorem Mat.swap (h : Mat w g off n N R M) {i k : Nat} (hi : i < n) (hk : k < n) :
    Mat ((w.setCell ⟨g, off + i, none⟩ (.slice (some ⟨R k, 0, none⟩) N N)).setCell ⟨g, off + k, none⟩ (.slice (some ⟨R i, 0, none⟩) N N)) g off n N (swapF R i k) (swapF M i k) where
  glt := by simpa [World.setCell] using h.glt
  rlt a ha := by
    have h1 := h.rlt i hi; have h2 := h.rlt k hk; have h3 := h.rlt a ha
    unfold swapF; split
    · simpa [World.setCell] using h2
    · split
      · simpa [World.setCell] using h1
      · simpa [World.setCell] using h3
  head a ha := by
    by_cases e2 : a = k
    · subst e2
      have hc : ∃ u, (w.setCell ⟨g, off + i, none⟩ (.slice (some ⟨R a, 0, none⟩) N N)).cell? ⟨g, off + a, none⟩ = some u := by
        by_cases e : i = a
        · subst e; exact ⟨_, sc_same (h.head i hi)⟩
        · exact ⟨_, (sc_other (addr_ne (.inr (by omega)))).trans (h.head a ha)⟩
      obtain ⟨u, hu⟩ := hc
      rw [sc_same hu]
      unfold swapF
      by_cases e : a = i
      · subst e; simp
      · simp [e]
    · rw [sc_other (addr_ne (.inr (by omega)))]
      by_cases e : a = i
      · subst e
        rw [sc_same (h.head a ha)]; simp [swapF]
      · rw [sc_other (addr_ne (.inr (by omega))), h.head a ha]; simp [swapF, e, e2]
  gfree a := by rw [sc_frozen, sc_frozen]; exact h.gfree a
  cell a ha l hl := by
    have key : ∀ b, b < n → (((w.setCell ⟨g, off + i, none⟩ (.slice (some ⟨R k, 0, none⟩) N N)).setCell ⟨g, off + k, none⟩ (.slice (some ⟨R i, 0, none⟩) N N))).cell? ⟨R b, l, none⟩ = some (.int .i64 (M b l)) := fun b hb => by
      rw [sc_other (addr_ne (.inl (Ne.symm (h.away b hb)))), sc_other (addr_ne (.inl (Ne.symm (h.away b hb))))]
      exact h.cell b hb l hl
    unfold swapF
    split
    · exact key k hk
    · split
      · exact key i hi
      · exact key a ha
  free a ha l := by
    rw [sc_frozen, sc_frozen]
    unfold swapF
    split
    · exact h.free k hk l
    · split
      · exact h.free i hi l
      · exact h.free a ha l
  apart a b ha hb e := by
    unfold swapF at e
    have key := h.apart
    split at e
    · split at e
      · omega
      · split at e
        · have := key _ _ hk hi e; omega
        · have := key _ _ hk hb e; omega
    · split at e
      · split at e
        · have := key _ _ hi hk e; omega
        · split at e
          · omega
          · have := key _ _ hi hb e; omega
      · split at e
        · have := key _ _ ha hk e; omega
        · split at e
          · have := key _ _ ha hi e; omega
          · exact key _ _ ha hb e
  away a ha := by
    unfold swapF
    split
    · exact h.away k hk
    · split
      · exact h.away i hi
      · exact h.away a ha
end Go.Proofs.Ytigdfcigoejjjaa
