/- A search in breadth: the plain law. No statement of the program is proved here. -/
import Derived.Test.YtigdfcigoejjjaaCn1
namespace Go.Proofs.Ytigdfcigoejjjaa
open Go.RowKit
set_option linter.unusedSimpArgs false
set_option linter.unusedVariables false
set_option maxRecDepth 20000

/-- How many have a distance. -/
def cntP (far : List Int) : Nat := (far.filter fun x => decide (0 ≤ x)).length
theorem cntP_le (far : List Int) : cntP far ≤ far.length := List.length_filter_le _ _
theorem cntP_set {far : List Int} {v : Nat} {x : Int} (hv : v < far.length) (h : far.getD v 0 < 0) (hx : 0 ≤ x) : cntP (far.set v x) = cntP far + 1 := by
  unfold cntP
  induction far generalizing v with
  | nil => simp at hv
  | cons y ys ih =>
    cases v with
    | zero =>
      simp only [List.getD_cons_zero] at h
      have h1 : ¬ (0 ≤ y) := by omega
      simp only [List.set_cons_zero, List.filter_cons, decide_eq_true hx, decide_eq_false h1, if_true, List.length_cons, Bool.false_eq_true, if_false]
    | succ v =>
      simp only [List.getD_cons_succ] at h
      have := ih (v := v) (by simpa using hv) h
      by_cases hy : 0 ≤ y
      · simp only [List.set_cons_succ, List.filter_cons, decide_eq_true hy, if_true, List.length_cons]; omega
      · simp only [List.set_cons_succ, List.filter_cons, decide_eq_false hy, Bool.false_eq_true, if_false]; omega
theorem getD_setI (far : List Int) (v u : Nat) (x : Int) (hv : v < far.length) : (far.set v x).getD u 0 = if u = v then x else far.getD u 0 := by
  by_cases h : u = v
  · subst h; rw [if_pos rfl]; simp [List.getD, hv]
  · rw [if_neg h]; simp [List.getD, List.getElem?_set_ne (Ne.symm h)]
/-- The state of the search from s: the distances, the vertices that wait, the head's edges below m that are done. -/
structure Bfs (es : List (Int × Int)) (p : Nat → Bool) (N s : Nat) (far : List Int) (wait : List Nat) (head : Option (Nat × Nat)) : Prop where
  len : far.length = N
  start : 0 ≤ far.getD s 0
  conn : ∀ u, u < N → 0 ≤ far.getD u 0 → Conn es p s u
  waits : ∀ u ∈ wait, u < N ∧ 0 ≤ far.getD u 0
  hd : ∀ u m, head = some (u, m) → u < N ∧ 0 ≤ far.getD u 0 ∧ ∀ k, k < m → k < es.length → p k = true → ∀ v : Nat, (es.getD k (0, 0) = ((u : Int), (v : Int)) ∨ es.getD k (0, 0) = ((v : Int), (u : Int))) → 0 ≤ far.getD v 0
  done : ∀ u, u < N → 0 ≤ far.getD u 0 → u ∉ wait → (∀ m, head ≠ some (u, m)) → ∀ v, Adj es p u v → 0 ≤ far.getD v 0
  bound : ∀ u, u < N → far.getD u 0 < cntP far
/-- A vertex is taken from the front. -/
theorem Bfs.pop {es : List (Int × Int)} {p : Nat → Bool} {N s u : Nat} {far : List Int} {wait : List Nat} (h : Bfs es p N s far (u :: wait) none) : Bfs es p N s far wait (some (u, 0)) where
  len := h.len
  start := h.start
  conn := h.conn
  waits := fun x hx => h.waits x (List.mem_cons_of_mem _ hx)
  hd := fun x m e => by
    injection e with e; injection e with e1 e2
    subst e1; subst e2
    exact ⟨(h.waits u (by simp)).1, (h.waits u (by simp)).2, fun k hk => by omega⟩
  done := fun x hx h0 hw hh => h.done x hx h0 (fun hm => by
    rcases List.mem_cons.1 hm with e | hm
    · exact hh 0 (by rw [e])
    · exact hw hm) (fun m => by simp)
  bound := h.bound
/-- The head's edges are all done. -/
theorem Bfs.fin {es : List (Int × Int)} {p : Nat → Bool} {N s u : Nat} {far : List Int} {wait : List Nat} (h : Bfs es p N s far wait (some (u, es.length))) : Bfs es p N s far wait none where
  len := h.len
  start := h.start
  conn := h.conn
  waits := h.waits
  hd := fun x m e => by cases e
  done := fun x hx h0 hw _ v ha => by
    by_cases e : x = u
    · subst e
      obtain ⟨k, hk, hp, hv⟩ := ha
      exact (h.hd x es.length rfl).2.2 k hk hk hp v hv
    · exact h.done x hx h0 hw (fun m e9 => by injection e9 with e9; injection e9 with e1 _; exact e e1.symm) v ha
  bound := h.bound
/-- An edge of the head that leads to nothing new. -/
theorem Bfs.old {es : List (Int × Int)} {p : Nat → Bool} {N s u m : Nat} {far : List Int} {wait : List Nat} (h : Bfs es p N s far wait (some (u, m))) (m' : Nat) (hm : ∀ k, m ≤ k → k < m' → k < es.length → p k = true → ∀ v : Nat, (es.getD k (0, 0) = ((u : Int), (v : Int)) ∨ es.getD k (0, 0) = ((v : Int), (u : Int))) → 0 ≤ far.getD v 0) : Bfs es p N s far wait (some (u, m')) where
  len := h.len
  start := h.start
  conn := h.conn
  waits := h.waits
  hd := fun x m2 e => by
    injection e with e; injection e with e1 e2
    subst e1; subst e2
    obtain ⟨h1, h2, h3⟩ := h.hd u m rfl
    refine ⟨h1, h2, fun k hk hkl hp v hv => ?_⟩
    by_cases hkm : k < m
    · exact h3 k hkm hkl hp v hv
    · exact hm k (by omega) hk hkl hp v hv
  done := fun x hx h0 hw hh => h.done x hx h0 hw (fun m2 e => by injection e with e; injection e with e1 _; exact hh m' (by rw [e1]))
  bound := h.bound
/-- An edge of the head that leads to a new vertex. -/
theorem Bfs.new {es : List (Int × Int)} {p : Nat → Bool} {N s u m v : Nat} {far : List Int} {wait : List Nat} (h : Bfs es p N s far wait (some (u, m))) (hv : v < N) (hneg : far.getD v 0 < 0) (ha : Adj es p u v) : Bfs es p N s (far.set v (far.getD u 0 + 1)) (wait ++ [v]) (some (u, m)) := by
  have hl := h.len
  have hvl : v < far.length := by omega
  obtain ⟨hu, hu0, hd⟩ := h.hd u m rfl
  have g : ∀ x, (far.set v (far.getD u 0 + 1)).getD x 0 = if x = v then far.getD u 0 + 1 else far.getD x 0 := fun x => getD_setI far v x _ hvl
  have mono : ∀ x, 0 ≤ far.getD x 0 → 0 ≤ (far.set v (far.getD u 0 + 1)).getD x 0 := fun x hx => by rw [g]; split <;> omega
  have hc := cntP_set (x := far.getD u 0 + 1) hvl hneg (by omega)
  refine ⟨by simpa using hl, mono s h.start, fun x hx h0 => ?_, fun x hx => ?_, fun x m2 e => ?_, fun x hx h0 hw hh y hy => ?_, fun x hx => ?_⟩
  · by_cases e : x = v
    · subst e; exact (h.conn u hu hu0).step ha
    · rw [g, if_neg e] at h0; exact h.conn x hx h0
  · rcases List.mem_append.1 hx with hx | hx
    · exact ⟨(h.waits x hx).1, mono x (h.waits x hx).2⟩
    · rw [List.mem_singleton] at hx
      subst hx
      exact ⟨hv, by rw [g, if_pos rfl]; omega⟩
  · injection e with e; injection e with e1 e2
    subst e1; subst e2
    exact ⟨hu, mono u hu0, fun k hk hkl hp y hy => mono y (hd k hk hkl hp y hy)⟩
  · have hxv : x ≠ v := fun e => hw (by simp [e])
    rw [g, if_neg hxv] at h0
    exact mono y (h.done x hx h0 (fun hm => hw (List.mem_append_left _ hm)) hh y hy)
  · rw [hc, g]
    split
    · have := h.bound u hu; omega
    · have := h.bound x hx; omega
/-- At the end those with a distance are those that ways lead to. -/
theorem Bfs.end_ {es : List (Int × Int)} {p : Nat → Bool} {N s : Nat} {far : List Int} (hin : InN N es) (h : Bfs es p N s far [] none) (hs : s < N) (u : Nat) (hu : u < N) : 0 ≤ far.getD u 0 ↔ Conn es p s u := by
  refine ⟨h.conn u hu, fun hc => ?_⟩
  have := Conn.closed (S := fun x => x < N ∧ 0 ≤ far.getD x 0) (fun x y hx ha => ⟨(ha.lt hin).2, h.done x hx.1 hx.2 (by simp) (fun m => by simp) y ha⟩) ⟨hs, h.start⟩ hc
  exact this.2
end Go.Proofs.Ytigdfcigoejjjaa
