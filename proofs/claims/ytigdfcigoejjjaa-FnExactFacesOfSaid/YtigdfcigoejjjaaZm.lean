/- A matrix of zeros that is built row by row, by append; no statement of the program is proved here. -/
import Derived.Test.YtigdfcigoejjjaaMat
namespace Go.Proofs.Ytigdfcigoejjjaa
open Go.RowKit
set_option linter.unusedSimpArgs false
set_option linter.unusedVariables false
set_option maxRecDepth 20000

/-- The heads of the first k rows. -/
def hdrs (R : Nat → Nat) (N k : Nat) : List Value := (List.range k).map fun i => .slice (some ⟨R i, 0, none⟩) N N
theorem hdrs_len (R : Nat → Nat) (N k : Nat) : (hdrs R N k).length = k := by simp [hdrs]
/-- The slice v owns the heads of k rows of N zeros, each in a block of its own. -/
structure ZM (w : World) (base : Nat) (v : Value) (k N : Nat) (R : Nat → Nat) : Prop where
  own : w.ownsRow base 25 1 v k (hdrs R N k)
  blk : ∀ i, i < k → Blk w (R i) 2 (cI (List.replicate N 0)).toArray
  mono : ∀ i j, i < j → j < k → R i < R j
  ge : ∀ i, i < k → base ≤ R i
theorem ZM.nil (w : World) (base N : Nat) (R : Nat → Nat) : ZM w base (.slice none 0 0) 0 N R :=
  ⟨World.ownsRow_nil _ _ _ _, by intro i hi; omega, by intro i j _ hj; omega, by intro i hi; omega⟩
theorem ZM.keep {w w' : World} {base : Nat} {v : Value} {k N : Nat} {R : Nat → Nat} (h : ZM w base v k N R) (hb : Below w.heap.size w w') : ZM w' base v k N R :=
  ⟨own_below h.own hb, fun i hi => (h.blk i hi).below hb (h.blk i hi).lt, h.mono, h.ge⟩
/-- The block that a slice owns holds no ints. -/
theorem own_block_ne {w : World} {base : Nat} {v : Value} {n r : Nat} {xs : List Value} {cs : Array Value} (h : w.ownsRow base 25 1 v n xs) (hB : Blk w r 2 cs) : v.ownBlock ≠ some r := by
  rcases h.2 with ⟨h1, _⟩ | ⟨g, cap, cur, hv, _, hh, _⟩
  · rw [h1]; simp [Value.ownBlock]
  · rw [hv]
    intro e
    simp [Value.ownBlock] at e
    subst e
    unfold Blk at hB
    rw [hh] at hB
    injection hB with hB
    injection hB with _ h2 _
    exact absurd h2 (by decide)
/-- One row more: the row was made (w1), its head laid for the append (w2), and appended (w3). -/
theorem ZM.step {w w3 : World} {base : Nat} {v v' : Value} {k N : Nat} {R : Nat → Nat} (h : ZM w base v k N R) (hb : base ≤ w.heap.size) {w2 : World} (hw2 : Below (w.heap.size + 1) (w.alloc (.cells (cI (List.replicate N 0)).toArray 2)) w2)
    (hs2 : w.heap.size + 1 ≤ w2.heap.size)
    (hown : w3.ownsRow base 25 1 v' (k + 1) (hdrs R N k ++ [.slice (some ⟨w.heap.size, 0, none⟩) N N])) (hg : w2.grownBy w3 v.ownBlock) : ZM w3 base v' (k + 1) N (fun i => if i = k then w.heap.size else R i) := by
  have hRlt : ∀ i, i < k → R i < w.heap.size := fun i hi => (h.blk i hi).lt
  refine ⟨?_, ?_, ?_, ?_⟩
  · have : hdrs (fun i => if i = k then w.heap.size else R i) N (k + 1) = hdrs R N k ++ [.slice (some ⟨w.heap.size, 0, none⟩) N N] := by
      simp only [hdrs, List.range_succ, List.map_append, List.map_cons, List.map_nil, if_true]
      congr 1
      refine List.map_congr_left fun i hi => ?_
      have : i < k := by simpa using hi
      rw [if_neg (by omega)]
    rw [this]; exact hown
  · intro i hi
    have hnew : Blk w2 w.heap.size 2 (cI (List.replicate N 0)).toArray := (Blk.new w 2 _).below hw2 (by omega)
    by_cases e : i = k
    · subst e
      simp only [if_true]
      refine (hg.block _ hnew.lt ?_).trans hnew
      intro e2
      exact absurd e2.symm (by
        intro e3
        rcases h.own.2 with ⟨h1, _⟩ | ⟨g, cap, cur, hv, _, hh, _⟩
        · rw [h1] at e3; simp [Value.ownBlock] at e3
        · rw [hv] at e3
          simp [Value.ownBlock] at e3
          have := Blk.lt (t := 25) (cs := cur) hh
          omega)
    · have hi' : i < k := by omega
      simp only [e, if_false]
      have hold : Blk w2 (R i) 2 (cI (List.replicate N 0)).toArray := ((h.blk i hi').alloc _).below hw2 (by have := hRlt i hi'; omega)
      refine (hg.block _ hold.lt ?_).trans hold
      exact fun e2 => own_block_ne h.own (h.blk i hi') e2.symm
  · intro i j hij hj
    by_cases e : j = k
    · subst e
      simp only [if_true, show ¬ i = j by omega, if_false]
      exact hRlt i hij
    · simp only [e, show ¬ i = k by omega, if_false]
      exact h.mono i j hij (by omega)
  · intro i hi
    by_cases e : i = k
    · simp only [e, if_true]; exact hb
    · simp only [e, if_false]; exact h.ge i (by omega)
theorem ZM.mat {w : World} {base : Nat} {g c n N : Nat} {R : Nat → Nat} (h : ZM w base (.slice (some ⟨g, 0, none⟩) n c) n N R) (hn : 0 < n) : Mat w g 0 n N R (fun _ _ => 0) := by
  obtain ⟨g', cap, cur, hv, hge, hh, hnc, hcm, hcs, ht⟩ : ∃ g' cap cur, Value.slice (some ⟨g, 0, none⟩) n c = .slice (some ⟨g', 0, none⟩) n cap ∧ base ≤ g' ∧ w.heap[g']? = some (.cells cur 25 (0, 0)) ∧ n ≤ cap ∧ cap ≤ maxLen ∧ cur.size = cap * 1 ∧ cur.toList.take (n * 1) = hdrs R N n := by
    rcases h.own.2 with ⟨h1, h2⟩ | ⟨g', cap, cur, hv, hge, hh, r1, r2, r3, r4⟩
    · omega
    · exact ⟨g', cap, cur, hv, hge, hh, r1, r2, r3, r4⟩
  injection hv with h1 _ h3
  injection h1 with h1
  injection h1 with h1 _ _
  subst h1
  have HB : Blk w g 25 cur := hh
  have ne : ∀ i, i < n → R i ≠ g := fun i hi e => by
    have := own_block_ne h.own (h.blk i hi)
    apply this
    simp [Value.ownBlock, e]
  refine ⟨HB.lt, fun i hi => (h.blk i hi).lt, ?_, fun i => HB.frozen i, ?_, fun i hi j => (h.blk i hi).frozen j, ?_, ne⟩
  · intro i hi
    rw [Nat.zero_add]
    refine HB.cellAt i _ ?_
    rw [Nat.mul_one] at ht
    have h5 : (hdrs R N n)[i]? = some (.slice (some ⟨R i, 0, none⟩) N N) := by simp [hdrs, hi]
    rw [← ht, List.getElem?_take_of_lt hi] at h5
    rw [← Array.getElem?_toList]; exact h5
  · intro i hi j hj
    exact (h.blk i hi).cellAt j _ (by simp [cI, hj])
  · intro i j hi hj e
    rcases Nat.lt_trichotomy i j with h' | h' | h'
    · have := h.mono i j h' hj; omega
    · exact h'
    · have := h.mono j i h' hi; omega
theorem ZM.empty {w : World} {base g N : Nat} (R : Nat → Nat) (h : Blk w g 25 #[]) (hb : base ≤ g) : ZM w base (.slice (some ⟨g, 0, none⟩) 0 0) 0 N R :=
  ⟨own_mono (own_blk (xs := []) h (by simp) (by decide)) hb, by intro i hi; omega, by intro i j _ hj; omega, by intro i hi; omega⟩
end Go.Proofs.Ytigdfcigoejjjaa
