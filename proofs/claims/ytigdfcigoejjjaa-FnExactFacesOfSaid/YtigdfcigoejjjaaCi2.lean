/- Lists of lists: what a slice of slices reads as; neighbours. -/
import Derived.Test.YtigdfcigoejjjaaCi1
namespace Go.Proofs.Ytigdfcigoejjjaa
open Go.RowKit
set_option linter.unusedSimpArgs false
set_option linter.unusedVariables false
set_option maxRecDepth 20000

/-- A slice of slices that begins at A reads as the lists xss. -/
def RdL (w : World) (A : Option Addr) (xss : List (List Int)) : Prop :=
  xss = [] ∨ ∃ b off, A = some ⟨b, off, none⟩ ∧ b < w.heap.size ∧ ∀ j, j < xss.length → ∃ A' c, w.cell? ⟨b, off + j, none⟩ = some (.slice A' (xss.getD j []).length c) ∧ RdI w A' (xss.getD j [])
theorem RdL.below {w w' : World} {A : Option Addr} {xss : List (List Int)} (h : RdL w A xss) (hb : Below w.heap.size w w') : RdL w' A xss := by
  rcases h with h | ⟨b, off, e, hlt, hc⟩
  · exact .inl h
  · exact .inr ⟨b, off, e, Nat.lt_of_lt_of_le hlt hb.size, fun j hj => by
      obtain ⟨A', c, h1, h2⟩ := hc j hj
      exact ⟨A', c, (hb.cell (p := ⟨b, off + j, none⟩) hlt).trans h1, h2.below hb⟩⟩
theorem RdL.pos {w : World} {A : Option Addr} {xss : List (List Int)} (h : RdL w A xss) (hp : 0 < xss.length) : ∃ b off, A = some ⟨b, off, none⟩ ∧ b < w.heap.size ∧ ∀ j, j < xss.length → ∃ A' c, w.cell? ⟨b, off + j, none⟩ = some (.slice A' (xss.getD j []).length c) ∧ RdI w A' (xss.getD j []) := by
  rcases h with rfl | h
  · simp at hp
  · exact h

/-- Likewise, outside block g. -/
def RdO (w : World) (g : Nat) (A : Option Addr) (xs : List Int) : Prop :=
  xs = [] ∨ ∃ b off, A = some ⟨b, off, none⟩ ∧ b ≠ g ∧ b < w.heap.size ∧ ∀ j, j < xs.length → w.cell? ⟨b, off + j, none⟩ = some (.int .i64 (xs.getD j 0))
theorem RdO.rd {w : World} {g : Nat} {A : Option Addr} {xs : List Int} (h : RdO w g A xs) : RdI w A xs := by
  rcases h with h | ⟨b, off, e, _, hlt, hc⟩
  · exact .inl h
  · exact .inr ⟨b, off, e, hlt, hc⟩
/-- Every old block but g is as it was. -/
def SameBut (g : Nat) (w w' : World) : Prop := w.heap.size ≤ w'.heap.size ∧ ∀ b, b < w.heap.size → b ≠ g → w'.heap[b]? = w.heap[b]?
theorem SameBut.refl (g : Nat) (w : World) : SameBut g w w := ⟨Nat.le_refl _, fun _ _ _ => rfl⟩
theorem SameBut.trans {g : Nat} {a b c : World} (h : SameBut g a b) (k : SameBut g b c) : SameBut g a c :=
  ⟨Nat.le_trans h.1 k.1, fun i hi hg => (k.2 i (Nat.lt_of_lt_of_le hi h.1) hg).trans (h.2 i hi hg)⟩
theorem SameBut.of_below {g : Nat} {w w' : World} (h : Below w.heap.size w w') : SameBut g w w' := ⟨h.size, fun b hb _ => h.block b hb⟩
theorem SameBut.of_below' {g B : Nat} {wo w w' : World} (h : SameBut g wo w) (hb : Below B w w') (hB : wo.heap.size ≤ B) : SameBut g wo w' :=
  ⟨Nat.le_trans h.1 hb.size, fun b hlt hg => (hb.block b (by omega)).trans (h.2 b hlt hg)⟩
theorem SameBut.set {g : Nat} {w w' : World} (h : SameBut g w w') (i : Nat) (v : Value) : SameBut g w (w'.setCell ⟨g, i, none⟩ v) :=
  ⟨by simpa [World.setCell] using h.1, fun b hb hg => (Below.heap_setCell w' ⟨g, i, none⟩ v b hg).trans (h.2 b hb hg)⟩
theorem RdO.keep {w w' : World} {g : Nat} {A : Option Addr} {xs : List Int} (h : RdO w g A xs) (k : SameBut g w w') : RdO w' g A xs := by
  rcases h with h | ⟨b, off, e, hg, hlt, hc⟩
  · exact .inl h
  · exact .inr ⟨b, off, e, hg, Nat.lt_of_lt_of_le hlt k.1, fun j hj => (World.cell?_of_block (w := w) (a := ⟨b, off + j, none⟩) (k.2 b hlt hg)).trans (hc j hj)⟩
theorem own_rdO {w : World} {base g : Nat} {e : TypeId} {A : Option Addr} {n c : Nat} {xs : List Int} (h : w.ownsRow base e 1 (.slice A n c) n (cI xs)) (hg : g < base) : RdO w g A xs := by
  obtain ⟨h1, h2⟩ := h
  rw [length_cI] at h1
  rcases h2 with ⟨_, h2⟩ | ⟨g', cap, cur, hv, hg', hh, _, _, hs, ht⟩
  · exact .inl (List.eq_nil_of_length_eq_zero (by omega))
  · injection hv with hv _ _
    refine .inr ⟨g', 0, hv, by omega, Blk.lt (t := e) (cs := cur) hh, fun j hj => ?_⟩
    have := getD_cI xs j hj
    rw [← ht, List.getElem?_take_of_lt (by omega)] at this
    rw [Nat.zero_add, Blk.cell (t := e) hh, ← Array.getElem?_toList]; exact this
theorem own_set_far {w : World} {base g i : Nat} {e : TypeId} {size n : Nat} {v u : Value} {xs : List Value} (h : w.ownsRow base e size v n xs) (hg : g < base) : (w.setCell ⟨g, i, none⟩ u).ownsRow base e size v n xs := ownsRow_setCell_below h hg u

/-- The lesser neighbours of i below k. -/
def nbrTo (are : Nat → Nat → Bool) (i k : Nat) : List Int := ((List.range k).filter (are i)).map fun (j : Nat) => (j : Int)
/-- The lesser neighbours of i. -/
def nbr (are : Nat → Nat → Bool) (i : Nat) : List Int := nbrTo are i i
theorem nbrTo_yes {are : Nat → Nat → Bool} {i k : Nat} (h : are i k = true) : nbrTo are i k ++ [(k : Int)] = nbrTo are i (k + 1) := by simp [nbrTo, List.range_succ, h]
theorem nbrTo_no {are : Nat → Nat → Bool} {i k : Nat} (h : are i k = false) : nbrTo are i k = nbrTo are i (k + 1) := by simp [nbrTo, List.range_succ, h]
theorem nbrTo_len (are : Nat → Nat → Bool) (i k : Nat) : (nbrTo are i k).length ≤ k := by
  have := List.length_filter_le (are i) (List.range k)
  simpa [nbrTo] using this
/-- All lists of lesser neighbours. -/
def nbrs (are : Nat → Nat → Bool) (m : Nat) : List (List Int) := (List.range m).map (nbr are)
theorem nbrs_len (are : Nat → Nat → Bool) (m : Nat) : (nbrs are m).length = m := by simp [nbrs]
theorem nbrs_getD (are : Nat → Nat → Bool) (m j : Nat) (h : j < m) : (nbrs are m).getD j [] = nbr are j := by simp [nbrs, List.getD, h]

/-- A function value on two numbers below m, the second the lesser. -/
def Pred2 (g : Nat) (fb lb : Array Value) (are : Nat → Nat → Bool) (m : Nat) (w : World) : Prop :=
  ∀ (W : World) (i k : Nat), k < i → i < m → Below w.heap.size w W → Calls Try.prog g (fb ++ (#[.int .i64 i, .int .i64 k] ++ lb)) W fun e w' => e = .returned (.bool (are i k)) ∧ Below W.heap.size W w'

theorem infoL : (Try.prog.info? 25).map (fun i => (i.zero, i.size, i.bytes)) = some (some (.slice none 0 0), 1, 24) := by kernel_rfl
theorem made_list (n : Nat) : madeCells (Value.cells (.slice none 0 0)) (n * 1) = (List.replicate n (Value.slice none 0 0)).toArray := by
  rw [Nat.mul_one]
  apply Array.ext
  · simp [madeCells]
  · intro i h1 h2
    simp [madeCells, Value.cells, Nat.mod_one]
theorem blkV_set {w : World} {g t i : Nat} {vs : List Value} {v u : Value} (h : Blk w g t (vs.set i v).toArray) : Blk (w.setCell ⟨g, i, none⟩ u) g t (vs.set i u).toArray :=
  (h.set_ i u).eq_ (by simp)

end Go.Proofs.Ytigdfcigoejjjaa
