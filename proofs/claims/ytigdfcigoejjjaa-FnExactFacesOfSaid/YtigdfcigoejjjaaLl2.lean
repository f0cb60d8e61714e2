/- Lists of lists under changes of another block; lists of bools. No statement of the program is proved here. -/
import Derived.Test.YtigdfcigoejjjaaLl1
import Derived.Test.YtigdfcigoejjjaaFa1
namespace Go.Proofs.Ytigdfcigoejjjaa
open Go.RowKit
set_option linter.unusedSimpArgs false
set_option linter.unusedVariables false
set_option maxRecDepth 20000

/-- A block that holds neither ints nor slices of ints. -/
def Alien (w : World) (g : Nat) : Prop := ∀ cs, ¬ Blk w g 2 cs ∧ ¬ Blk w g 25 cs
theorem own_but {w w' : World} {base n g : Nat} {v : Value} {xs : List Value} (h : w.ownsRow base 2 1 v n xs) (k : SameBut g w w') (hg : Alien w g) : w'.ownsRow base 2 1 v n xs := by
  obtain ⟨h1, h2⟩ := h
  refine ⟨h1, ?_⟩
  rcases h2 with h2 | ⟨b, cap, cur, e, hb, hh, r⟩
  · exact .inl h2
  · have hne : b ≠ g := by rintro rfl; exact (hg cur).1 hh
    exact .inr ⟨b, cap, cur, e, hb, (k.2 b (Blk.lt (t := 2) (cs := cur) hh) hne).trans hh, r⟩
theorem own_butS {w w' : World} {base n g : Nat} {v : Value} {xs : List Value} (h : w.ownsRow base 25 1 v n xs) (k : SameBut g w w') (hg : Alien w g) : w'.ownsRow base 25 1 v n xs := by
  obtain ⟨h1, h2⟩ := h
  refine ⟨h1, ?_⟩
  rcases h2 with h2 | ⟨b, cap, cur, e, hb, hh, r⟩
  · exact .inl h2
  · have hne : b ≠ g := by rintro rfl; exact (hg cur).2 hh
    exact .inr ⟨b, cap, cur, e, hb, (k.2 b (Blk.lt (t := 25) (cs := cur) hh) hne).trans hh, r⟩
theorem RdT.but {w w' : World} {g : Nat} {v : Value} {xs : List Int} (h : RdT w v xs) (k : SameBut g w w') (hg : Alien w g) : RdT w' v xs := by
  obtain ⟨A, c, rfl, h | ⟨b, off, cur, rfl, h1, h2⟩⟩ := h
  · exact ⟨A, c, rfl, .inl h⟩
  · have hne : b ≠ g := by rintro rfl; exact (hg cur).1 h1
    exact ⟨_, c, rfl, .inr ⟨b, off, cur, rfl, (k.2 b h1.lt hne).trans h1, h2⟩⟩
theorem OwnLD.but {w w' : World} {base top g : Nat} {v : Value} {xss : List (List Int)} (h : OwnLD w base top v xss) (k : SameBut g w w') (hg : Alien w g) : OwnLD w' base top v xss := by
  obtain ⟨vs, h1, h2, h3⟩ := h
  exact ⟨vs, own_butS h1 k hg, fun j hj => ⟨own_but (h2 j hj).1 k hg, (h2 j hj).2⟩, h3⟩
theorem alien_blk {w : World} {g t : Nat} {cs : Array Value} (h : Blk w g t cs) (h1 : t ≠ 2) (h2 : t ≠ 25) : Alien w g := by
  refine fun cs' => ⟨fun h3 => ?_, fun h3 => ?_⟩
  · have h4 := h.symm.trans h3
    injection h4 with h4
    injection h4 with _ h4 _
    exact h1 h4
  · have h4 := h.symm.trans h3
    injection h4 with h4
    injection h4 with _ h4 _
    exact h2 h4
theorem OwnLL.blk0 {w : World} {base g : Nat} (h : Blk w g 25 #[]) (hb : base ≤ g) : OwnLL w base (.slice (some ⟨g, 0, none⟩) 0 0) [] :=
  ⟨0, Nat.zero_le _, [], own_mono (own_blk (xs := []) h (by simp) (by decide)) hb, fun j hj => by simp at hj, fun i j hi => by simp at hi⟩
/-- Bools as a block's cells. -/
def cB (met : List Bool) : List Value := met.map Value.bool
theorem length_cB (met : List Bool) : (cB met).length = met.length := by simp [cB]
theorem cB_cell {w : World} {g d : Nat} {met : List Bool} (h : Blk w g 4 (cB met).toArray) (hd : d < met.length) : w.cell? ⟨g, d, none⟩ = some (.bool (met.getD d true)) :=
  h.cellAt d _ (by simp [cB, List.getD, hd])
theorem cB_set {w : World} {g d : Nat} {met : List Bool} (h : Blk w g 4 (cB met).toArray) (b : Bool) : Blk (w.setCell ⟨g, d, none⟩ (.bool b)) g 4 (cB (met.set d b)).toArray := by
  have h2 := h.set_ d (.bool b)
  rw [cB, List.map_set]
  simpa [cB] using h2
/-- How many of a block's bools are false. -/
def openW (w : World) (g n : Nat) : Nat := ((List.range n).filter fun j => match w.cell? ⟨g, j, none⟩ with | some (.bool b) => !b | _ => false).length
theorem openW_blk {w : World} {g : Nat} {met : List Bool} (h : Blk w g 4 (cB met).toArray) : openW w g met.length = openN met := by
  have h1 : openW w g met.length = ((List.range met.length).filter fun j => !(met.getD j true)).length := by
    unfold openW
    congr 1
    refine List.filter_congr fun j hj => ?_
    rw [List.mem_range] at hj
    rw [cB_cell h hj]
  have h2 : met = (List.range met.length).map fun j => met.getD j true := by
    refine List.ext_getElem (by simp) fun i h1 h2 => ?_
    simp [List.getD, h1]
  rw [h1]
  unfold openN
  conv => rhs; rw [h2]
  rw [List.filter_map, List.length_map]
  rfl
theorem onB_or (e : Int × Int) (v : Int) : onB e v = true ↔ e.1 = v ∨ e.2 = v := by simp [onB]
theorem nxD_alt {n : Int} {es : List (Int × Int)} (h : isGraphB n es = true) (rot : List Int) {d : Nat} (hd : d < 2 * es.length) :
    ((es.getD (nextE es rot d) (0, 0)).1 = endD es d → nxD es rot d = 2 * nextE es rot d) ∧ ((es.getD (nextE es rot d) (0, 0)).1 ≠ endD es d → nxD es rot d = 2 * nextE es rot d + 1) := by
  obtain ⟨h1, h2⟩ := nextE_lt h rot hd
  have h3 := h
  simp only [isGraphB, Bool.and_eq_true] at h3
  have h4 := areEdgesB_in h3.1
  have hne := h4.2.2.2.2 _ h1
  rw [onB_or] at h2
  unfold nxD
  constructor
  · intro e
    rw [if_neg (fun e2 => hne (e.trans e2.symm))]; omega
  · intro e
    rcases h2 with h2 | h2
    · exact absurd h2 e
    · rw [if_pos h2]
end Go.Proofs.Ytigdfcigoejjjaa
