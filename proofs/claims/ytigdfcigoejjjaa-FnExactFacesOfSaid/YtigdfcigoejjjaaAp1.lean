/- Append of one int to a slice that the call owns; no statement of the program is proved here. -/
import Derived.Test.YtigdfcigoejjjaaMk1
import Derived.Test.YtigdfcigoejjjaaEx2
namespace Go.Proofs.Ytigdfcigoejjjaa
open Go.RowKit
set_option linter.unusedSimpArgs false
set_option linter.unusedVariables false
set_option maxRecDepth 20000

theorem own_frI {w : World} {base : Nat} {e : TypeId} {A : Option Addr} {n c : Nat} {xs : List Int} (h : w.ownsRow base e 1 (.slice A n c) n (cI xs)) : FrI w base A xs := by
  have h0 := own_rdI h
  obtain ⟨h1, h2⟩ := h
  rw [length_cI] at h1
  rcases h2 with ⟨_, h2⟩ | ⟨g, cap, cur, hv, hg, hh, _⟩
  · exact .inl (List.eq_nil_of_length_eq_zero (by omega))
  · injection hv with hv _ _
    subst hv
    rcases h0 with h0 | ⟨b, off, e1, hb, hc⟩
    · exact .inl h0
    · injection e1 with e1; injection e1 with e1 e2 _
      subst e1; subst e2
      exact .inr ⟨g, 0, rfl, hg, hb, fun o => Blk.frozen (t := e) hh o, hc⟩


set_option maxHeartbeats 2000000 in
theorem l01Own2_b (b off c : Nat) (xs : List Int) (w : World) (hl : xs.length ≤ 100000) (hr : RdI w (some ⟨b, off, none⟩) xs) :
    Calls Try.prog 121 #[.slice (some ⟨b, off, none⟩) xs.length c] w fun e w' => ∃ A' c', e = .returned (.slice A' xs.length c') ∧ w'.ownsRow w.heap.size 2 1 (.slice A' xs.length c') xs.length (cI xs) ∧ Below w.heap.size w w' := by
  obtain ⟨i0, hi, hz0, hz1, hz2⟩ := info_parts infoI
  have hown : (w.alloc (.cells #[] 2)).ownsRow w.heap.size 2 1 (.slice (some ⟨w.heap.size, 0, none⟩) 0 0) 0 [] := own_mono (own_blk (xs := []) (Blk.new w 2 #[]) (by simp) (by decide)) (Nat.le_refl _)
  have hcell : ∀ j u, (cI xs)[j]? = some u → (w.alloc (.cells #[] 2)).cell? ((⟨b, off, none⟩ : Addr).add j) = some u := fun j u hj => by
    have hj2 : j < xs.length := by
      have := (List.getElem?_eq_some_iff.1 hj).1
      simpa [cI] using this
    rw [getD_cI xs j hj2] at hj
    injection hj with hj
    subst hj
    obtain ⟨b2, off2, e, hb, hc⟩ := hr.pos (by omega)
    injection e with e
    injection e with e1 e2 _
    subst e1; subst e2
    rw [Addr.add_lit]
    exact ((Below.alloc (Below.refl w.heap.size w) (Nat.le_refl _) (.cells #[] 2)).cell (p := ⟨b, off + j, none⟩) hb).trans (hc j hj2)
  have Hc := Lib.hid hcell; have Ho := Lib.hid hown
  clear hr hcell hown
  go_enter Try.func121, Try.ntmps121
  go_wp2_with (first
    | (at_builtin; refine wpList_append_own _ rfl _ _ 25 rfl w.heap.size 2 i0 (.int .i64 0) 1 8 Try.underlying25 hi hz0 hz1 hz2 rfl (by decide) _ _ _ rfl Ho.out ⟨b, off, none⟩ xs.length c (cI xs) rfl (by simp [cI]) Hc.out ?c2 ?c3 ?c4 ?c5 ?_))
  case c2 => intro u hu; simp only [cI, List.mem_map] at hu; obtain ⟨z, _, rfl⟩ := hu; rfl
  case c3 => unfold maxLen; omega
  case c4 => omega
  case c5 => simp
  intro v' w1 hown' hgrow _
  have hb1 : Below w.heap.size w w1 := own_grown_below (Below.alloc (Below.refl _ _) (Nat.le_refl _) _) Ho.out hgrow (by simp)
  have hown2 : w1.ownsRow w.heap.size 2 1 v' xs.length (cI xs) := by first | exact hown' | (have h := hown'; simp only [Nat.zero_add, List.nil_append] at h; exact h)
  obtain ⟨A', c', rfl⟩ := own_form hown2
  have H1 := Lib.hid hown2
  clear hown' hown2 hgrow Ho Hc
  go_wp2
  go_ret
  exact ⟨A', c', rfl, H1.out, hb1⟩

theorem run_append1 {base n : Nat} {v : Value} {xs : List Int} {y : Int} {w w' : World} {v' : Value} (hown : w.ownsRow base 2 1 v n (cI xs)) (hbase : base ≤ w.heap.size)
    (hown' : w'.ownsRow base 2 1 v' (n + 1) (cI xs ++ [.int .i64 y])) (hg : w.grownBy w' v.ownBlock) :
    ∃ g c, v' = .slice (some ⟨g, 0, none⟩) (n + 1) c ∧ w'.ownsRow base 2 1 (.slice (some ⟨g, 0, none⟩) (n + 1) c) (n + 1) (cI (xs ++ [y])) ∧ ∀ B w0, B ≤ base → Below B w0 w → Below B w0 w' := by
  have h1 := own_snocI hown' (rfl : xs ++ [y] = xs ++ [y])
  obtain ⟨g, c, rfl, _, _⟩ := own_someI h1 (by omega)
  exact ⟨g, c, rfl, h1, fun B w0 hB hb => hb.trans (own_grown_below (Below.refl _ _) (own_mono hown hB) hg (Nat.le_trans hB hbase))⟩

open Go.Maps in
theorem wp_append1 {o : Oper} {a : Act} {K : Act → World → Prop} {Q : Exit → Act → World → Prop} {w : World} {s x : Operand}
    (ho : o.op = .call { callee := .builtin .append, args := #[s, x], argTypes := #[25, 25] })
    (base : Nat) (v : Value) (n : Nat) (xs : List Int) (hs : a.eval s = v) (hown : w.ownsRow base 2 1 v n (cI xs))
    (ad : Addr) (c : Nat) (y : Int) (hx : a.eval x = .slice (some ad) 1 c) (hy : w.cell? ad = some (.int .i64 y)) (hn : n ≤ 100000000) (hbase : base ≤ w.heap.size)
    (h : ∀ g c' w', w'.ownsRow base 2 1 (.slice (some ⟨g, 0, none⟩) (n + 1) c') (n + 1) (cI (xs ++ [y])) → (∀ B w0, B ≤ base → Below B w0 w → Below B w0 w') → K (a.put o.dst (.slice (some ⟨g, 0, none⟩) (n + 1) c')) w') : o.wp Try.prog a w K Q := by
  obtain ⟨i0, hi0, hz0, hz1, hz2⟩ := info_parts infoI
  refine wp_append_own w s x _ ho base 2 i0 (.int .i64 0) 1 8 Try.underlying25 hi0 hz0 hz1 hz2 rfl (by decide) v n (cI xs) hs hown ad 1 c [.int .i64 y] hx rfl ?_ ?_ (by unfold maxLen; omega) (by omega) hbase ?_
  · intro j u hj
    match j, hj with
    | 0, hj => simp at hj; subst hj; obtain ⟨b, o, e⟩ := ad; exact hy
  · intro u hu; simp at hu; subst hu; rfl
  · intro v' w' h1 h2 _
    obtain ⟨g, c', rfl, h3, h4⟩ := run_append1 hown hbase h1 h2
    exact h g c' w' h3 h4
theorem wpList_append1 {ops : Array Oper} {rest : List Oper} {o : Oper} {a : Act} {Q : Exit → Act → World → Prop} {w : World} {s x : Operand} (hgd : o.guard = none)
    (ho : o.op = .call { callee := .builtin .append, args := #[s, x], argTypes := #[25, 25] })
    (base : Nat) (v : Value) (n : Nat) (xs : List Int) (hs : a.eval s = v) (hown : w.ownsRow base 2 1 v n (cI xs))
    (ad : Addr) (c : Nat) (y : Int) (hx : a.eval x = .slice (some ad) 1 c) (hy : w.cell? ad = some (.int .i64 y)) (hn : n ≤ 100000000) (hbase : base ≤ w.heap.size)
    (h : ∀ g c' w', w'.ownsRow base 2 1 (.slice (some ⟨g, 0, none⟩) (n + 1) c') (n + 1) (cI (xs ++ [y])) → (∀ B w0, B ≤ base → Below B w0 w → Below B w0 w') → wpList Try.prog ops Q rest (a.put o.dst (.slice (some ⟨g, 0, none⟩) (n + 1) c')) w') : wpList Try.prog ops Q (o :: rest) a w :=
  wpList_plain hgd fun _ hK => wp_append1 ho base v n xs hs hown ad c y hx hy hn hbase fun g c' w' h1 h2 => hK _ _ (h g c' w' h1 h2)
theorem wpList_append1G {ops : Array Oper} {rest : List Oper} {o : Oper} {a : Act} {Q : Exit → Act → World → Prop} {w : World} {s x : Operand} (hw : Region.wanted o (yielded ops a.tmps) = true)
    (ho : o.op = .call { callee := .builtin .append, args := #[s, x], argTypes := #[25, 25] })
    (base : Nat) (v : Value) (n : Nat) (xs : List Int) (hs : a.eval s = v) (hown : w.ownsRow base 2 1 v n (cI xs))
    (ad : Addr) (c : Nat) (y : Int) (hx : a.eval x = .slice (some ad) 1 c) (hy : w.cell? ad = some (.int .i64 y)) (hn : n ≤ 100000000) (hbase : base ≤ w.heap.size)
    (h : ∀ g c' w', w'.ownsRow base 2 1 (.slice (some ⟨g, 0, none⟩) (n + 1) c') (n + 1) (cI (xs ++ [y])) → (∀ B w0, B ≤ base → Below B w0 w → Below B w0 w') → wpList Try.prog ops Q rest (a.put o.dst (.slice (some ⟨g, 0, none⟩) (n + 1) c')) w') : wpList Try.prog ops Q (o :: rest) a w :=
  wpList_step fun K hK => by
    rw [if_pos hw]
    exact wp_append1 ho base v n xs hs hown ad c y hx hy hn hbase fun g c' w' h1 h2 => hK _ _ (h g c' w' h1 h2)
end Go.Proofs.Ytigdfcigoejjjaa
