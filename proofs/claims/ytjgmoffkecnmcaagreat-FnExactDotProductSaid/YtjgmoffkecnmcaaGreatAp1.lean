/- Append of one int to a slice that the call owns; no statement of the program is proved here. -/
import Derived.Test.YtjgmoffkecnmcaaGreatMk1
import Derived.Test.YtjgmoffkecnmcaaGreatEx2
namespace Go.Proofs.YtjgmoffkecnmcaaGreat
open Go.RowKit
set_option linter.unusedSimpArgs false
set_option linter.unusedVariables false
set_option maxRecDepth 20000

theorem own_frI {w : World} {base : Nat} {e : TypeId} {A : Option Addr} {n c : Nat} {xs : List Int} (h : w.ownsRow base e 1 (.slice A n c) n (cI xs)) : FrI w base A xs := by
  have h0 := own_rdI h
  obtain ⟨h1, h2⟩ := h
  rw [length_cI] at h1
  rcases h2 with ⟨_, h2⟩ | ⟨g, cap, cur, hv, hg, hh, _⟩
  · exact .inl (List.eq_nil_of_length_eq_zero (by omega))
  · injection hv with hv _ _
    subst hv
    rcases h0 with h0 | ⟨b, off, e1, hb, hc⟩
    · exact .inl h0
    · injection e1 with e1; injection e1 with e1 e2 _
      subst e1; subst e2
      exact .inr ⟨g, 0, rfl, hg, hb, fun o => Blk.frozen (t := e) hh o, hc⟩


theorem run_append1 {base n : Nat} {v : Value} {xs : List Int} {y : Int} {w w' : World} {v' : Value} (hown : w.ownsRow base 2 1 v n (cI xs)) (hbase : base ≤ w.heap.size)
    (hown' : w'.ownsRow base 2 1 v' (n + 1) (cI xs ++ [.int .i64 y])) (hg : w.grownBy w' v.ownBlock) :
    ∃ g c, v' = .slice (some ⟨g, 0, none⟩) (n + 1) c ∧ w'.ownsRow base 2 1 (.slice (some ⟨g, 0, none⟩) (n + 1) c) (n + 1) (cI (xs ++ [y])) ∧ ∀ B w0, B ≤ base → Below B w0 w → Below B w0 w' := by
  have h1 := own_snocI hown' (rfl : xs ++ [y] = xs ++ [y])
  obtain ⟨g, c, rfl, _, _⟩ := own_someI h1 (by omega)
  exact ⟨g, c, rfl, h1, fun B w0 hB hb => hb.trans (own_grown_below (Below.refl _ _) (own_mono hown hB) hg (Nat.le_trans hB hbase))⟩

open Go.Maps in
theorem wp_append1 {o : Oper} {a : Act} {K : Act → World → Prop} {Q : Exit → Act → World → Prop} {w : World} {s x : Operand}
    (ho : o.op = .call { callee := .builtin .append, args := #[s, x], argTypes := #[43, 43] })
    (base : Nat) (v : Value) (n : Nat) (xs : List Int) (hs : a.eval s = v) (hown : w.ownsRow base 2 1 v n (cI xs))
    (ad : Addr) (c : Nat) (y : Int) (hx : a.eval x = .slice (some ad) 1 c) (hy : w.cell? ad = some (.int .i64 y)) (hn : n ≤ 100000000) (hbase : base ≤ w.heap.size)
    (h : ∀ g c' w', w'.ownsRow base 2 1 (.slice (some ⟨g, 0, none⟩) (n + 1) c') (n + 1) (cI (xs ++ [y])) → (∀ B w0, B ≤ base → Below B w0 w → Below B w0 w') → K (a.put o.dst (.slice (some ⟨g, 0, none⟩) (n + 1) c')) w') : o.wp Tryz.prog a w K Q := by
  obtain ⟨i0, hi0, hz0, hz1, hz2⟩ := info_parts infoI
  refine wp_append_own w s x _ ho base 2 i0 (.int .i64 0) 1 8 Tryz.underlying43 hi0 hz0 hz1 hz2 rfl (by decide) v n (cI xs) hs hown ad 1 c [.int .i64 y] hx rfl ?_ ?_ (by unfold maxLen; omega) (by omega) hbase ?_
  · intro j u hj
    match j, hj with
    | 0, hj => simp at hj; subst hj; obtain ⟨b, o, e⟩ := ad; exact hy
  · intro u hu; simp at hu; subst hu; rfl
  · intro v' w' h1 h2 _
    obtain ⟨g, c', rfl, h3, h4⟩ := run_append1 hown hbase h1 h2
    exact h g c' w' h3 h4
theorem wpList_append1 {ops : Array Oper} {rest : List Oper} {o : Oper} {a : Act} {Q : Exit → Act → World → Prop} {w : World} {s x : Operand} (hgd : o.guard = none)
    (ho : o.op = .call { callee := .builtin .append, args := #[s, x], argTypes := #[43, 43] })
    (base : Nat) (v : Value) (n : Nat) (xs : List Int) (hs : a.eval s = v) (hown : w.ownsRow base 2 1 v n (cI xs))
    (ad : Addr) (c : Nat) (y : Int) (hx : a.eval x = .slice (some ad) 1 c) (hy : w.cell? ad = some (.int .i64 y)) (hn : n ≤ 100000000) (hbase : base ≤ w.heap.size)
    (h : ∀ g c' w', w'.ownsRow base 2 1 (.slice (some ⟨g, 0, none⟩) (n + 1) c') (n + 1) (cI (xs ++ [y])) → (∀ B w0, B ≤ base → Below B w0 w → Below B w0 w') → wpList Tryz.prog ops Q rest (a.put o.dst (.slice (some ⟨g, 0, none⟩) (n + 1) c')) w') : wpList Tryz.prog ops Q (o :: rest) a w :=
  wpList_plain hgd fun _ hK => wp_append1 ho base v n xs hs hown ad c y hx hy hn hbase fun g c' w' h1 h2 => hK _ _ (h g c' w' h1 h2)
theorem wpList_append1G {ops : Array Oper} {rest : List Oper} {o : Oper} {a : Act} {Q : Exit → Act → World → Prop} {w : World} {s x : Operand} (hw : Region.wanted o (yielded ops a.tmps) = true)
    (ho : o.op = .call { callee := .builtin .append, args := #[s, x], argTypes := #[43, 43] })
    (base : Nat) (v : Value) (n : Nat) (xs : List Int) (hs : a.eval s = v) (hown : w.ownsRow base 2 1 v n (cI xs))
    (ad : Addr) (c : Nat) (y : Int) (hx : a.eval x = .slice (some ad) 1 c) (hy : w.cell? ad = some (.int .i64 y)) (hn : n ≤ 100000000) (hbase : base ≤ w.heap.size)
    (h : ∀ g c' w', w'.ownsRow base 2 1 (.slice (some ⟨g, 0, none⟩) (n + 1) c') (n + 1) (cI (xs ++ [y])) → (∀ B w0, B ≤ base → Below B w0 w → Below B w0 w') → wpList Tryz.prog ops Q rest (a.put o.dst (.slice (some ⟨g, 0, none⟩) (n + 1) c')) w') : wpList Tryz.prog ops Q (o :: rest) a w :=
  wpList_step fun K hK => by
    rw [if_pos hw]
    exact wp_append1 ho base v n xs hs hown ad c y hx hy hn hbase fun g c' w' h1 h2 => hK _ _ (h g c' w' h1 h2)
end Go.Proofs.YtjgmoffkecnmcaaGreat
