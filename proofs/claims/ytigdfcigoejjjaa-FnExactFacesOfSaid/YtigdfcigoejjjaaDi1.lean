/- A queue of ints (a slice that is cut in front and grows behind); the edges at a vertex step by step; the start of a search in breadth. No statement of the program is proved here. -/
import Derived.Test.YtigdfcigoejjjaaCn2
import Derived.Test.YtigdfcigoejjjaaAt
import Derived.Test.YtigdfcigoejjjaaAp1
import Derived.Test.YtigdfcigoejjjaaRp
import Derived.ArgAppend
namespace Go.Proofs.Ytigdfcigoejjjaa
open Go.RowKit
set_option linter.unusedSimpArgs false
set_option linter.unusedVariables false
set_option maxRecDepth 20000

/-- A slice of the call's own that may begin anywhere in its block. -/
def OwnQ (w : World) (base : Nat) (A : Option Addr) (n c : Nat) (xs : List Int) : Prop :=
  xs.length = n ∧ n ≤ c ∧ ∃ b off cur, A = some ⟨b, off, none⟩ ∧ base ≤ b ∧ Blk w b 2 cur ∧ off + c ≤ cur.size ∧ ∀ j, j < n → cur[off + j]? = some (.int .i64 (xs.getD j 0))
theorem OwnQ.below {w w' : World} {base B n c : Nat} {A : Option Addr} {xs : List Int} (h : OwnQ w base A n c xs) (hb : Below B w w') (hB : w.heap.size ≤ B) : OwnQ w' base A n c xs := by
  obtain ⟨h1, h2, b, off, cur, h3, h4, h5, h6, h7⟩ := h
  exact ⟨h1, h2, b, off, cur, h3, h4, h5.below hb (Nat.lt_of_lt_of_le h5.lt hB), h6, h7⟩
theorem OwnQ.far {w : World} {base n c : Nat} {A : Option Addr} {xs : List Int} (h : OwnQ w base A n c xs) {p : Addr} (hp : p.block < base) (u : Value) : OwnQ (w.setCell p u) base A n c xs := by
  obtain ⟨h1, h2, b, off, cur, h3, h4, h5, h6, h7⟩ := h
  exact ⟨h1, h2, b, off, cur, h3, h4, h5.far (by omega) u, h6, h7⟩
theorem OwnQ.rd {w : World} {base n c : Nat} {A : Option Addr} {xs : List Int} (h : OwnQ w base A n c xs) : RdI w A xs := by
  obtain ⟨h1, h2, b, off, cur, h3, h4, h5, h6, h7⟩ := h
  exact .inr ⟨b, off, h3, h5.lt, fun j hj => (h5.cell _).trans (h7 j (by omega))⟩
theorem OwnQ.pop {w : World} {base n c : Nat} {A : Option Addr} {x : Int} {xs : List Int} (h : OwnQ w base A (n + 1) c (x :: xs)) : ∃ b off, A = some ⟨b, off, none⟩ ∧ w.cell? ⟨b, off, none⟩ = some (.int .i64 x) ∧ b < w.heap.size ∧ n + 1 ≤ c ∧
    OwnQ w base (some ⟨b, off + 1, none⟩) n (c - 1) xs ∧ (c = 1 → OwnQ w base (some ⟨b, off, none⟩) n 0 xs) := by
  obtain ⟨h1, h2, b, off, cur, h3, h4, h5, h6, h7⟩ := h
  have h1' : xs.length = n := by simpa using h1
  refine ⟨b, off, h3, (h5.cell _).trans (by have := h7 0 (by omega); simpa using this), h5.lt, h2, ⟨h1', by omega, b, off + 1, cur, rfl, h4, h5, by omega, fun j hj => ?_⟩, fun hc => ⟨h1', by omega, b, off, cur, rfl, h4, h5, by omega, fun j hj => by omega⟩⟩
  have := h7 (j + 1) (by omega)
  rw [List.getD_cons_succ] at this
  rw [← this]
  congr 1
  omega
theorem own_q {w : World} {base n : Nat} {v : Value} {xs : List Int} (h : w.ownsRow base 2 1 v n (cI xs)) (hn : 0 < n) : ∃ A c, v = .slice A n c ∧ OwnQ w base A n c xs := by
  obtain ⟨hl, h2⟩ := h
  rw [length_cI] at hl
  rcases h2 with ⟨rfl, h3⟩ | ⟨g, cap, cur, rfl, hg, hh, h3, h4, h5, h6⟩
  · omega
  · refine ⟨_, _, rfl, by omega, h3, g, 0, cur, rfl, hg, hh, by omega, fun j hj => ?_⟩
    rw [Nat.zero_add, ← getD_cI xs j (by omega), ← h6, List.getElem?_take_of_lt (by omega), Array.getElem?_toList]
open Go.Maps in
theorem wpList_appendQ {ops : Array Oper} {rest : List Oper} {o : Oper} {a : Act} {Q : Exit → Act → World → Prop} {w : World} {s x : Operand} (hgd : o.guard = none)
    (ho : o.op = .call { callee := .builtin .append, args := #[s, x], argTypes := #[25, 25] })
    (base : Nat) (A : Option Addr) (n c : Nat) (xs : List Int) (hs : a.eval s = .slice A n c) (hown : OwnQ w base A n c xs)
    (ad : Addr) (cx : Nat) (y : Int) (hx : a.eval x = .slice (some ad) 1 cx) (hy : w.cell? ad = some (.int .i64 y)) (hn : n ≤ 100000) (hbase : base ≤ w.heap.size)
    (h : ∀ b' off' c' w', OwnQ w' base (some ⟨b', off', none⟩) (n + 1) c' (xs ++ [y]) → (∀ B w0, B ≤ base → Below B w0 w → Below B w0 w') → (∀ b off, A = some ⟨b, off, none⟩ → SameBut b w w' ∧ (b' = b ∨ w.heap.size ≤ b')) → wpList Try.prog ops Q rest (a.put o.dst (.slice (some ⟨b', off', none⟩) (n + 1) c')) w') : wpList Try.prog ops Q (o :: rest) a w := by
  obtain ⟨i0, hi0, hz0, hz1, hz2⟩ := info_parts infoI
  obtain ⟨h1, h2, b, off, cur, rfl, h4, h5, h6, h7⟩ := hown
  refine wpList_append_arg w hgd s x 25 ho 2 i0 (.int .i64 0) 1 8 Try.underlying25 hi0 hz0 hz1 hz2 rfl (by decide) b off n c (cI xs) hs (by rw [length_cI]; omega) ?_ ad 1 cx [.int .i64 y] hx rfl ?_ ?_ ?_ (by unfold maxLen; omega) (by omega) ?_ ?_
  · intro j u hj
    have hj2 : j < xs.length := by have := (List.getElem?_eq_some_iff.1 hj).1; rwa [length_cI] at this
    rw [getD_cI xs j hj2] at hj
    rw [h5.cell, h7 j (by omega)]
    exact hj
  · intro j u hj
    match j, hj with
    | 0, hj => simp at hj; subst hj; obtain ⟨bx, ox, ex⟩ := ad; exact hy
  · intro u hu; simp at hu; subst hu; rfl
  · intro hr j hj
    simp at hj
    subst hj
    exact ⟨by rw [h5.cell]; simp; omega, h5.frozen _⟩
  · intro hr
    have e1 : w.setCells b (off + n * 1) [.int .i64 y] = w.setCell ⟨b, off + n, none⟩ (.int .i64 y) := by simp [World.setCells]
    rw [e1]
    refine h _ _ _ _ ⟨by simp [h1], hr, b, off, _, rfl, h4, h5.set_ (off + n) _, by simpa using h6, fun j hj => ?_⟩ (fun B w0 hB hb => hb.setCell (p := ⟨b, off + n, none⟩) (by show B ≤ b; omega) _) (fun b2 off2 e => by
      injection e with e; injection e with e _ _; subst e
      exact ⟨(SameBut.refl b w).set (off + n) _, .inl rfl⟩)
    by_cases e : j = n
    · subst e
      rw [Array.getElem?_setIfInBounds_self_of_lt (by omega)]
      simp [List.getD, ← h1]
    · rw [Array.getElem?_setIfInBounds_ne (by omega), h7 j (by omega)]
      simp [List.getD, List.getElem?_append_left (show j < xs.length by omega)]
  · intro hr v' w' hown' hg
    have hown2 : w'.ownsRow w.heap.size 2 1 v' (n + 1) (cI (xs ++ [y])) := by
      have : cI (xs ++ [y]) = cI xs ++ [.int .i64 y] := by simp [cI]
      rw [this]; exact hown'
    obtain ⟨A', c', rfl, hq⟩ := own_q hown2 (by omega)
    obtain ⟨q1, q2, gq, oq, cq, rfl, q5, q6, q7, q8⟩ := hq
    refine h gq oq c' w' ⟨q1, q2, gq, oq, cq, rfl, by omega, q6, q7, q8⟩ (fun B w0 hB hb => hb.trans ?_) (fun b2 off2 e => ?_)
    · exact ⟨hg.os, hg.tape, hg.output, hg.size, fun k hk => hg.block k (by omega) (by simp)⟩
    · injection e with e; injection e with e _ _; subst e
      exact ⟨⟨hg.size, fun k hk _ => hg.block k hk (by simp)⟩, .inr q5⟩

theorem atTo_prefix (es : List (Int × Int)) (v : Int) {m n : Nat} (h : m ≤ n) : ∃ r, atTo es v n = atTo es v m ++ r := by
  obtain ⟨d, rfl⟩ : ∃ d, n = m + d := ⟨n - m, by omega⟩
  refine ⟨(((List.range' m d).filter fun j => onB (es.getD j (0, 0)) v)).map fun (j : Nat) => (j : Int), ?_⟩
  simp only [atTo, nbrTo]
  rw [← List.map_append, ← List.filter_append]
  congr 2
  simp only [List.range_eq_range']
  have := @List.range'_append_1 0 m d
  rw [Nat.zero_add] at this
  exact this.symm
theorem atTo_yes {es : List (Int × Int)} {v : Int} {m : Nat} (h : onB (es.getD m (0, 0)) v = true) : atTo es v (m + 1) = atTo es v m ++ [(m : Int)] := (nbrTo_yes (are := fun _ j => onB (es.getD j (0, 0)) v) (i := 0) h).symm
theorem atTo_no {es : List (Int × Int)} {v : Int} {m : Nat} (h : onB (es.getD m (0, 0)) v = false) : atTo es v (m + 1) = atTo es v m := (nbrTo_no (are := fun _ j => onB (es.getD j (0, 0)) v) (i := 0) h).symm
/-- The next edge at a vertex. -/
theorem at_step {es : List (Int × Int)} {v : Int} {q : Nat} : ∀ (d m : Nat), m + d = es.length → atTo es v m = (atL es v).take q → q < (atL es v).length →
    ∃ i, m ≤ i ∧ i < es.length ∧ (atL es v).getD q 0 = (i : Int) ∧ onB (es.getD i (0, 0)) v = true ∧ (∀ j, m ≤ j → j < i → onB (es.getD j (0, 0)) v = false) ∧ atTo es v (i + 1) = (atL es v).take (q + 1)
  | 0, m, hd, he, hq => by
    obtain rfl : m = es.length := by omega
    have : (atL es v).length ≤ q := by
      have h9 := congrArg List.length he
      rw [List.length_take] at h9
      have : (atTo es v es.length).length = (atL es v).length := rfl
      omega
    omega
  | d + 1, m, hd, he, hq => by
    have hlen : (atTo es v m).length = q := by rw [he, List.length_take]; omega
    cases hb : onB (es.getD m (0, 0)) v
    · obtain ⟨i, h1, h2, h3, h4, h5, h6⟩ := at_step d (m + 1) (by omega) (by rw [atTo_no hb]; exact he) hq
      refine ⟨i, by omega, h2, h3, h4, fun j hj hji => ?_, h6⟩
      by_cases e : j = m
      · subst e; exact hb
      · exact h5 j (by omega) hji
    · obtain ⟨r, hr⟩ := atTo_prefix es v (show m + 1 ≤ es.length by omega)
      have hL : atL es v = (atTo es v m ++ [(m : Int)]) ++ r := by rw [← atTo_yes hb]; exact hr
      refine ⟨m, Nat.le_refl _, by omega, ?_, hb, fun j h1 h2 => by omega, ?_⟩
      · rw [hL]; simp [List.getD, ← hlen]
      · rw [atTo_yes hb, hL, List.take_append_of_le_length (by simp; omega), List.take_of_length_le (by simp; omega)]
/-- No edge is left. -/
theorem at_end {es : List (Int × Int)} {v : Int} {q : Nat} {m : Nat} (he : atTo es v m = (atL es v).take q) (hq : (atL es v).length ≤ q) : ∀ j, m ≤ j → j < es.length → onB (es.getD j (0, 0)) v = false := by
  intro j hj hjl
  cases hb : onB (es.getD j (0, 0)) v
  · rfl
  · obtain ⟨r, hr⟩ := atTo_prefix es v hj
    obtain ⟨r2, hr2⟩ := atTo_prefix es v (show j + 1 ≤ es.length by omega)
    have h1 : (atL es v).length = (atTo es v es.length).length := rfl
    rw [hr2, atTo_yes hb, hr, he] at h1
    simp only [List.length_append, List.length_take, List.length_cons] at h1
    omega
theorem onB_iff (e : Int × Int) (v : Int) : onB e v = true ↔ e.1 = v ∨ e.2 = v := by simp [onB]
/-- The distances at the start. -/
def far0 (N s : Nat) : List Int := (List.replicate N (-1)).set s 0
theorem far0_getD (N s u : Nat) (hs : s < N) (hu : u < N) : (far0 N s).getD u 0 = if u = s then 0 else -1 := by
  rw [far0, getD_setI _ _ _ _ (by simpa using hs)]
  split
  · rfl
  · simp [List.getD, hu]
theorem cnt0 (N s : Nat) (hs : s < N) : cntP (far0 N s) = 1 := by
  rw [far0, cntP_set (by simpa using hs) (by simp [List.getD, hs]) (by omega)]
  have : cntP (List.replicate N (-1)) = 0 := by simp [cntP]
  omega
theorem Bfs.init (es : List (Int × Int)) (p : Nat → Bool) (N s : Nat) (hs : s < N) : Bfs es p N s (far0 N s) [s] none where
  len := by simp [far0]
  start := by rw [far0_getD _ _ _ hs hs, if_pos rfl]; omega
  conn := fun u hu h => by
    rw [far0_getD _ _ _ hs hu] at h
    split at h
    · next e => subst e; exact .refl
    · omega
  waits := fun u hu => by
    rw [List.mem_singleton] at hu
    subst hu
    exact ⟨hs, by rw [far0_getD _ _ _ hs hs, if_pos rfl]; omega⟩
  hd := fun u m e => by cases e
  done := fun u hu h hw => by
    rw [far0_getD _ _ _ hs hu] at h
    split at h
    · next e => subst e; simp at hw
    · omega
  bound := fun u hu => by
    rw [cnt0 N s hs, far0_getD _ _ _ hs hu]
    split <;> omega
/-- How many cells of a block hold no number below 0. -/
def cntW (w : World) (g N : Nat) : Nat := ((List.range N).filter fun j => match w.cell? ⟨g, j, none⟩ with | some (.int _ x) => decide (0 ≤ x) | _ => false).length
theorem cntW_blk {w : World} {g N : Nat} {far : List Int} (h : Blk w g 2 (cI far).toArray) (hN : far.length = N) : cntW w g N = cntP far := by
  have h1 : cntW w g N = ((List.range N).filter fun j => decide (0 ≤ far.getD j 0)).length := by
    unfold cntW
    congr 1
    refine List.filter_congr fun j hj => ?_
    rw [List.mem_range] at hj
    rw [h.cellAt j (.int .i64 (far.getD j 0)) (by rw [List.getElem?_toArray]; exact getD_cI far j (by omega))]
  have h2 : far = (List.range N).map fun j => far.getD j 0 := by
    refine List.ext_getElem (by simp [hN]) fun i h1 h2 => ?_
    simp [List.getD, h1]
  rw [h1]
  unfold cntP
  conv => rhs; rw [h2]
  rw [List.filter_map, List.length_map]
  rfl
theorem blk_cI {w : World} {base g n : Nat} {xs : List Int} (h : w.ownsRow base 2 1 (.slice (some ⟨g, 0, none⟩) n n) n (cI xs)) (hn : xs.length = n) : Blk w g 2 (cI xs).toArray ∧ base ≤ g := by
  rcases h.2 with ⟨h1, _⟩ | ⟨g', cap, cur, hv, hge, hh, _, _, h5, h6⟩
  · cases h1
  · injection hv with h1 _ h3
    injection h1 with h1
    injection h1 with h1 _ _
    subst h1; subst h3
    refine ⟨?_, hge⟩
    have : cur = (cI xs).toArray := by
      rw [List.take_of_length_le (by rw [Array.length_toList]; omega)] at h6
      rw [← h6]
    rw [← this]; exact hh
theorem Bfs.wait_cons {es : List (Int × Int)} {p : Nat → Bool} {N s : Nat} {far : List Int} {wait : List Nat} (h : Bfs es p N s far wait none) (hp : 0 < wait.length) : ∃ u r, wait = u :: r ∧ u < N := by
  cases wait with
  | nil => simp at hp
  | cons u r => exact ⟨u, r, rfl, (h.waits u (by simp)).1⟩
/-- A list of vertices as ints. -/
def nI (l : List Nat) : List Int := l.map fun (u : Nat) => (u : Int)
theorem nI_len (l : List Nat) : (nI l).length = l.length := by simp [nI]
theorem nI_cons (u : Nat) (l : List Nat) : nI (u :: l) = (u : Int) :: nI l := rfl
theorem nI_snoc (u : Nat) (l : List Nat) : nI (l ++ [u]) = nI l ++ [(u : Int)] := by simp [nI]
theorem blk_cell {w : World} {g : Nat} {xs : List Int} (h : Blk w g 2 (cI xs).toArray) {j : Nat} (hj : j < xs.length) : w.cell? ⟨g, j, none⟩ = some (.int .i64 (xs.getD j 0)) := h.cellAt j _ (by rw [List.getElem?_toArray]; exact getD_cI xs j hj)
theorem blk_set {w : World} {g : Nat} {xs : List Int} (h : Blk w g 2 (cI xs).toArray) (j : Nat) (x : Int) : Blk (w.setCell ⟨g, j, none⟩ (.int .i64 x)) g 2 (cI (xs.set j x)).toArray := by
  have h2 := h.set_ j (.int .i64 x)
  rw [cI_set]
  simpa using h2
theorem rdI_one {w : World} {g : Nat} {y : Int} (h : Blk w g 2 #[.int .i64 y]) : RdI w (some ⟨g, 0, none⟩) [y] := .inr ⟨g, 0, rfl, h.lt, fun j hj => by
  simp only [List.length_singleton] at hj
  obtain rfl : j = 0 := by omega
  exact h.cellAt 0 _ rfl⟩
end Go.Proofs.Ytigdfcigoejjjaa
