/- Lists of lists of ints that the call owns: append of a list. No statement of the program is proved here. -/
import Derived.Test.YtigdfcigoejjjaaAp1
namespace Go.Proofs.Ytigdfcigoejjjaa
open Go.RowKit
set_option linter.unusedSimpArgs false
set_option linter.unusedVariables false
set_option maxRecDepth 20000

/-- A slice of a block of ints. -/
def RdT (w : World) (v : Value) (xs : List Int) : Prop := ∃ A c, v = .slice A xs.length c ∧ (xs = [] ∨ ∃ b off cur, A = some ⟨b, off, none⟩ ∧ Blk w b 2 cur ∧ ∀ j, j < xs.length → cur[off + j]? = some (.int .i64 (xs.getD j 0)))
theorem RdT.rd {w : World} {v : Value} {xs : List Int} (h : RdT w v xs) : ∃ A c, v = .slice A xs.length c ∧ RdI w A xs := by
  obtain ⟨A, c, rfl, h | ⟨b, off, cur, rfl, hb, hc⟩⟩ := h
  · exact ⟨A, c, rfl, .inl h⟩
  · exact ⟨_, c, rfl, .inr ⟨b, off, rfl, hb.lt, fun j hj => (hb.cell _).trans (hc j hj)⟩⟩
theorem RdT.below {w w' : World} {v : Value} {xs : List Int} {B : Nat} (h : RdT w v xs) (hb : Below B w w') (hB : w.heap.size ≤ B) : RdT w' v xs := by
  obtain ⟨A, c, rfl, h | ⟨b, off, cur, rfl, h1, h2⟩⟩ := h
  · exact ⟨A, c, rfl, .inl h⟩
  · exact ⟨_, c, rfl, .inr ⟨b, off, cur, rfl, h1.below hb (Nat.lt_of_lt_of_le h1.lt hB), h2⟩⟩
theorem own_rdT {w : World} {base n : Nat} {v : Value} {xs : List Int} (h : w.ownsRow base 2 1 v n (cI xs)) : RdT w v xs := by
  obtain ⟨hl, h2⟩ := h
  rw [length_cI] at hl
  rcases h2 with ⟨rfl, h3⟩ | ⟨g, cap, cur, rfl, hg, hh, h3, h4, h5, h6⟩
  · have : xs = [] := List.eq_nil_of_length_eq_zero (by omega)
    subst this
    exact ⟨none, 0, rfl, .inl rfl⟩
  · refine ⟨some ⟨g, 0, none⟩, cap, by rw [hl]; simp, .inr ⟨g, 0, cur, rfl, hh, fun j hj => ?_⟩⟩
    rw [Nat.zero_add, ← getD_cI xs j hj, ← h6, List.getElem?_take_of_lt (by omega), Array.getElem?_toList]
theorem blk_ne {w : World} {b g : Nat} {c1 c2 : Array Value} {t1 t2 : TypeId} (h1 : Blk w b t1 c1) (h2 : Blk w g t2 c2) (ht : t1 ≠ t2) : b ≠ g := by
  rintro rfl
  have h3 := h1.symm.trans h2
  injection h3 with h3
  injection h3 with _ h3 _
  exact ht h3
theorem own_grownT {w w' : World} {base base' n m : Nat} {v s : Value} {xs : List Value} {vs : List Value} (h : w.ownsRow base' 2 1 v m xs) (hown : w.ownsRow base 25 1 s n vs) (hg : w.grownBy w' s.ownBlock) : w'.ownsRow base' 2 1 v m xs := by
  obtain ⟨h1, h2⟩ := h
  refine ⟨h1, ?_⟩
  rcases h2 with h2 | ⟨b, cap, cur, e, hb, hh, r⟩
  · exact .inl h2
  · refine .inr ⟨b, cap, cur, e, hb, ?_, r⟩
    refine (hg.block b (Blk.lt (t := 2) (cs := cur) hh) ?_).trans hh
    rcases hown.2 with ⟨rfl, _⟩ | ⟨g, cap2, cur2, rfl, _, hh2, _⟩
    · simp [Value.ownBlock]
    · have : b ≠ g := blk_ne (c1 := cur) (c2 := cur2) hh hh2 (by decide)
      simp [Value.ownBlock, this]
/-- A list of lists that the call owns; the lists' blocks are different, and below top. -/
def OwnLD (w : World) (base top : Nat) (v : Value) (xss : List (List Int)) : Prop := ∃ vs : List Value, w.ownsRow base 25 1 v xss.length vs ∧
  (∀ j, j < xss.length → w.ownsRow base 2 1 (vs.getD j undef) (xss.getD j []).length (cI (xss.getD j [])) ∧ ∀ g, (vs.getD j undef).ownBlock = some g → g < top) ∧
  (∀ i j, i < xss.length → j < xss.length → i ≠ j → ∀ g, (vs.getD i undef).ownBlock = some g → (vs.getD j undef).ownBlock ≠ some g)
def OwnLL (w : World) (base : Nat) (v : Value) (xss : List (List Int)) : Prop := ∃ top, top ≤ w.heap.size ∧ OwnLD w base top v xss
theorem OwnLD.below {w w' : World} {base top B : Nat} {v : Value} {xss : List (List Int)} (h : OwnLD w base top v xss) (hb : Below B w w') (hB : w.heap.size ≤ B) : OwnLD w' base top v xss := by
  obtain ⟨vs, h1, h2, h3⟩ := h
  exact ⟨vs, own_below h1 (hb.mono hB), fun j hj => ⟨own_below (h2 j hj).1 (hb.mono hB), (h2 j hj).2⟩, h3⟩
theorem OwnLL.nil (w : World) (base : Nat) : OwnLL w base (.slice none 0 0) [] := ⟨0, Nat.zero_le _, [], World.ownsRow_nil _ _ _ _, fun j hj => by simp at hj, fun i j hi => by simp at hi⟩
theorem OwnLL.below {w w' : World} {base B : Nat} {v : Value} {xss : List (List Int)} (h : OwnLL w base v xss) (hb : Below B w w') (hB : w.heap.size ≤ B) : OwnLL w' base v xss := by
  obtain ⟨top, ht, h⟩ := h
  exact ⟨top, Nat.le_trans ht hb.size, h.below hb hB⟩
theorem OwnLL.mono {w : World} {base base' : Nat} {v : Value} {xss : List (List Int)} (h : OwnLL w base v xss) (hb : base' ≤ base) : OwnLL w base' v xss := by
  obtain ⟨top, ht, vs, h1, h2, h3⟩ := h
  exact ⟨top, ht, vs, own_mono h1 hb, fun j hj => ⟨own_mono (h2 j hj).1 hb, (h2 j hj).2⟩, h3⟩
theorem OwnLL.form {w : World} {base : Nat} {v : Value} {xss : List (List Int)} (h : OwnLL w base v xss) : ∃ A c, v = .slice A xss.length c ∧ RdL w A xss := by
  obtain ⟨top, ht, vs, h1, h2, _⟩ := h
  obtain ⟨A, c, rfl⟩ := own_form h1
  refine ⟨A, c, rfl, ?_⟩
  obtain ⟨hl, h3⟩ := h1
  rcases h3 with ⟨h4, h5⟩ | ⟨g, cap, cur, h4, hg, hh, h5, h6, h7, h8⟩
  · exact .inl (List.eq_nil_of_length_eq_zero h5)
  · injection h4 with h4 _ _
    subst h4
    refine .inr ⟨g, 0, rfl, Blk.lt (t := 25) (cs := cur) hh, fun j hj => ?_⟩
    obtain ⟨A', c', e, hr⟩ := (own_rdT (h2 j hj).1).rd
    refine ⟨A', c', ?_, hr⟩
    rw [Nat.zero_add, Blk.cell (t := 25) hh, ← e, ← Array.getElem?_toList]
    have h9 : vs[j]? = some (vs.getD j undef) := by
      have hj2 : j < vs.length := by omega
      simp [List.getD, hj2]
    rw [← h9, ← h8, List.getElem?_take_of_lt (by omega)]
open Go.Maps in
/-- Append of one list. -/
theorem wpList_appendLL {ops : Array Oper} {rest : List Oper} {o : Oper} {a : Act} {Q : Exit → Act → World → Prop} {w : World} {s x : Operand} (hgd : o.guard = none)
    (ho : o.op = .call { callee := .builtin .append, args := #[s, x], argTypes := #[27, 27] })
    (base top base' : Nat) (v : Value) (xss : List (List Int)) (hs : a.eval s = v) (hown : OwnLD w base top v xss) (htop : top ≤ base') (hbb : base ≤ base')
    (ad : Addr) (cx : Nat) (y : Value) (ys : List Int) (hx : a.eval x = .slice (some ad) 1 cx) (hy : w.cell? ad = some y) (hyr : w.ownsRow base' 2 1 y ys.length (cI ys)) (hn : xss.length ≤ 100000) (hbase : base ≤ w.heap.size)
    (h : ∀ v' w', OwnLL w' base v' (xss ++ [ys]) → (∀ B w0, B ≤ base → Below B w0 w → Below B w0 w') → w.grownBy w' v.ownBlock → wpList Try.prog ops Q rest (a.put o.dst v') w') : wpList Try.prog ops Q (o :: rest) a w := by
  obtain ⟨i0, hi0, hz0, hz1, hz2⟩ := info_parts infoL
  obtain ⟨vs, h1, h2, h2b⟩ := hown
  have hl := h1.1
  refine wpList_append_own w hgd s x 27 ho base 25 i0 (.slice none 0 0) 1 24 Try.underlying27 hi0 hz0 hz1 hz2 rfl (by decide) v xss.length vs hs h1 ad 1 cx [y] hx rfl ?_ ?_ (by unfold maxLen; omega) (by omega) hbase ?_
  · intro j u hj
    match j, hj with
    | 0, hj => simp at hj; subst hj; obtain ⟨b, o, e⟩ := ad; exact hy
  · intro u hu
    simp at hu; subst hu
    obtain ⟨A, c, rfl⟩ := own_form hyr
    rfl
  · intro v' w' hown' hg _
    have ey : ∀ g, y.ownBlock = some g → base' ≤ g ∧ g < w.heap.size := by
      intro g hgb
      rcases hyr.2 with ⟨rfl, _⟩ | ⟨b, cap, cur, rfl, hb, hh, _⟩
      · simp [Value.ownBlock] at hgb
      · simp [Value.ownBlock] at hgb
        subst hgb
        exact ⟨hb, Blk.lt (t := 2) (cs := cur) hh⟩
    have e1 : ∀ j, j < xss.length → (vs ++ [y]).getD j undef = vs.getD j undef ∧ (xss ++ [ys]).getD j [] = xss.getD j [] := fun j e => ⟨by simp [List.getD, List.getElem?_append_left (show j < vs.length by omega)], by simp [List.getD, List.getElem?_append_left e]⟩
    have e2 : (vs ++ [y]).getD xss.length undef = y ∧ (xss ++ [ys]).getD xss.length [] = ys := ⟨by simp [List.getD, List.getElem?_append_right (show vs.length ≤ xss.length by omega), show xss.length - vs.length = 0 by omega], by simp [List.getD]⟩
    refine h v' w' ⟨w'.heap.size, Nat.le_refl _, vs ++ [y], by rw [List.length_append]; exact hown', fun j hj => ?_, fun i j hi hj hij g hgi hgj => ?_⟩ (fun B w0 hB hb => own_grown_below hb (own_mono h1 hB) hg (Nat.le_trans hB hbase)) hg
    · rw [List.length_append, List.length_singleton] at hj
      by_cases e : j < xss.length
      · rw [(e1 j e).1, (e1 j e).2]
        refine ⟨own_grownT (h2 j e).1 h1 hg, fun g hgb => ?_⟩
        rcases (h2 j e).1.2 with ⟨h5, _⟩ | ⟨b, cap, cur, h5, hb, hh, _⟩
        · rw [h5] at hgb; simp [Value.ownBlock] at hgb
        · rw [h5] at hgb
          simp [Value.ownBlock] at hgb
          subst hgb
          exact Nat.lt_of_lt_of_le (Blk.lt (t := 2) (cs := cur) hh) hg.size
      · obtain rfl : j = xss.length := by omega
        rw [e2.1, e2.2]
        exact ⟨own_mono (own_grownT hyr h1 hg) hbb, fun g hgb => Nat.lt_of_lt_of_le (ey g hgb).2 hg.size⟩
    · rw [List.length_append, List.length_singleton] at hi hj
      by_cases ei : i < xss.length
      · rw [(e1 i ei).1] at hgi
        by_cases ej : j < xss.length
        · rw [(e1 j ej).1] at hgj
          exact h2b i j ei ej hij g hgi hgj
        · obtain rfl : j = xss.length := by omega
          rw [e2.1] at hgj
          have := (h2 i ei).2 g hgi
          have := (ey g hgj).1
          omega
      · obtain rfl : i = xss.length := by omega
        rw [e2.1] at hgi
        have ej : j < xss.length := by omega
        rw [(e1 j ej).1] at hgj
        have := (h2 j ej).2 g hgj
        have := (ey g hgi).1
        omega
end Go.Proofs.Ytigdfcigoejjjaa
