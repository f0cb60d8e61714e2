/- The reference's l06Without: the plain parts. No statement of the program is proved here. -/
import Derived.Test.YtjgmoffkecnmcaaGreatWo2
import Derived.Test.YtjgmoffkecnmcaaGreatAp1
namespace Go.Proofs.YtjgmoffkecnmcaaGreat
open Go.RowKit
set_option linter.unusedSimpArgs false
set_option linter.unusedVariables false
set_option maxRecDepth 20000

/-- The number of a vertex that is left. -/
def frV (s : Nat) (f : Int) (v : Nat) : Int := (v : Int) - (shC s v : Nat) + f
def numV (s : Nat) (f : Int) (v : Nat) : Int := if s.testBit v = true then -1 else frV s f v
def numL (s : Nat) (f : Int) (n : Nat) : List Int := (List.range n).map (numV s f)
theorem numL_succ (s : Nat) (f : Int) (n : Nat) : numL s f (n + 1) = numL s f n ++ [numV s f n] := by simp [numL, List.range_succ]
theorem numL_len (s : Nat) (f : Int) (n : Nat) : (numL s f n).length = n := by simp [numL]
theorem numL_getD {s : Nat} {f : Int} {n v : Nat} (h : v < n) : (numL s f n).getD v 0 = numV s f v := by simp [numL, List.getD, h]
theorem frV_ge {s v : Nat} {f : Int} (hf : 0 ≤ f) : 0 ≤ frV s f v ∧ frV s f v ≤ v + f := by unfold frV; have := shC_le s v; omega
theorem frV_zero (s : Nat) (f : Int) : frV s f 0 = f := by simp [frV, shC]
theorem shC_next (S n : Nat) : shC S (n + 1) = shC S n + (if S.testBit n then 1 else 0) := by
  unfold shC
  rw [List.range_succ, List.filter_append, List.length_append]
  cases h : S.testBit n <;> simp [h]
theorem frV_succ (s v : Nat) (f : Int) : frV s f (v + 1) = if s.testBit v = true then frV s f v else frV s f v + 1 := by
  unfold frV
  rw [shC_next]
  cases h : s.testBit v
  · simp; omega
  · simp; omega
/-- A block of ints that is read from its start. -/
theorem blkI_take {w : World} {g t n : Nat} {cur : Array Value} {xs : List Int} (h : Blk w g t cur) (hn : xs.length = n) (ht : cur.toList.take (n * 1) = cI xs) : RdI w (some ⟨g, 0, none⟩) xs := by
  refine .inr ⟨g, 0, rfl, h.lt, fun j hj => ?_⟩
  rw [Nat.zero_add, h.cell]
  have h9 : cur[j]? = (cI xs)[j]? := by rw [← ht, List.getElem?_take_of_lt (by omega), Array.getElem?_toList]
  rw [h9]
  simp [cI, List.getD, hj]
theorem own_blkI' {w : World} {base : Nat} {e : TypeId} {n c g : Nat} {xs : List Int} (h : w.ownsRow base e 1 (.slice (some ⟨g, 0, none⟩) n c) n (cI xs)) :
    ∃ cur, Blk w g e cur ∧ base ≤ g ∧ n ≤ c ∧ cur.toList.take (n * 1) = cI xs := by
  rcases h.2 with ⟨h1, _⟩ | ⟨g', cap, cur, hv, hge, hh, h6, h7, h8, ht⟩
  · cases h1
  · injection hv with h1 h2 h3
    injection h1 with h1
    injection h1 with h1 _ _
    subst h1; subst h3
    exact ⟨cur, hh, hge, h6, ht⟩
/-- A slice owns no block of another type. -/
theorem own_ne_type {w : World} {base r t : Nat} {e : TypeId} {size n : Nat} {v : Value} {xs : List Value} {cs : Array Value} (h : w.ownsRow base e size v n xs) (hB : Blk w r t cs) (hne : t ≠ e) : v.ownBlock ≠ some r := by
  rcases h.2 with ⟨h1, _⟩ | ⟨g, cap, cur, hv, hge, hh, _⟩
  · subst h1; simp [Value.ownBlock]
  · subst hv
    intro he
    have hg : g = r := by simpa [Value.ownBlock] using he
    subst hg
    have h2 : w.heap[g]? = some (.cells cs t (0, 0)) := hB
    have h3 : w.heap[g]? = some (.cells cur e (0, 0)) := hh
    rw [h2] at h3
    injection h3 with h3
    injection h3 with _ h3 _
    exact hne h3
theorem Blk.grown' {w w' : World} {g t base : Nat} {cs : Array Value} {e : TypeId} {size n : Nat} {v : Value} {xs : List Value} (h : Blk w g t cs) (hown : w.ownsRow base e size v n xs) (hg : w.grownBy w' v.ownBlock) (hne : t ≠ e) : Blk w' g t cs :=
  (hg.block g h.lt (fun e9 => own_ne_type hown h hne e9.symm)).trans h

open Go.Maps in
/-- Append of one int; what else stays. -/
theorem wpList_append1B {ops : Array Oper} {rest : List Oper} {o : Oper} {a : Act} {Q : Exit → Act → World → Prop} {w : World} {s x : Operand} (hgd : o.guard = none)
    (ho : o.op = .call { callee := .builtin .append, args := #[s, x], argTypes := #[43, 43] })
    (base : Nat) (v : Value) (n : Nat) (xs : List Int) (hs : a.eval s = v) (hown : w.ownsRow base 2 1 v n (cI xs))
    (ad : Addr) (c : Nat) (y : Int) (hx : a.eval x = .slice (some ad) 1 c) (hy : w.cell? ad = some (.int .i64 y)) (hn : n ≤ 100000000) (hbase : base ≤ w.heap.size)
    (h : ∀ g c' w', w'.ownsRow base 2 1 (.slice (some ⟨g, 0, none⟩) (n + 1) c') (n + 1) (cI (xs ++ [y])) → (∀ B w0, B ≤ base → Below B w0 w → Below B w0 w') → w.grownBy w' v.ownBlock → wpList Tryz.prog ops Q rest (a.put o.dst (.slice (some ⟨g, 0, none⟩) (n + 1) c')) w') : wpList Tryz.prog ops Q (o :: rest) a w :=
  wpList_plain hgd fun K hK => by
    obtain ⟨i0, hi0, hz0, hz1, hz2⟩ := info_parts infoI
    refine wp_append_own w s x _ ho base 2 i0 (.int .i64 0) 1 8 Tryz.underlying43 hi0 hz0 hz1 hz2 rfl (by decide) v n (cI xs) hs hown ad 1 c [.int .i64 y] hx rfl ?_ ?_ (by unfold maxLen; omega) (by omega) hbase ?_
    · intro j u hj
      match j, hj with
      | 0, hj => simp at hj; subst hj; obtain ⟨b, o, e⟩ := ad; exact hy
    · intro u hu; simp at hu; subst hu; rfl
    · intro v' w' h1 h2 _
      obtain ⟨g, c', rfl, h3, h4⟩ := run_append1 hown hbase h1 h2
      exact hK _ _ (h g c' w' h3 h4 h2)
end Go.Proofs.YtjgmoffkecnmcaaGreat
