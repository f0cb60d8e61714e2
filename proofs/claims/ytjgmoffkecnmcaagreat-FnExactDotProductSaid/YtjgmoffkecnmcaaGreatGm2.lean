/- Slices of edges that the call owns: cells, a store, an append; a returned graph. No statement of the program is proved here. -/
import Derived.Test.YtjgmoffkecnmcaaGreatGm1
import Derived.Test.YtjgmoffkecnmcaaGreatMk1
import Derived.Test.YtjgmoffkecnmcaaGreatAp1
namespace Go.Proofs.YtjgmoffkecnmcaaGreat
open Go.RowKit
set_option linter.unusedSimpArgs false
set_option linter.unusedVariables false
set_option maxRecDepth 20000

theorem own_cellE {w : World} {base : Nat} {e : TypeId} {n c g : Nat} {es : List (Int × Int)} (h : w.ownsRow base e 2 (.slice (some ⟨g, 0, none⟩) n c) n (cE es)) (hn : es.length = n) {i : Nat} (hi : i < n) :
    w.cell? ⟨g, i * 2, none⟩ = some (.int .i64 (es.getD i (0, 0)).1) ∧ w.cell? ⟨g, i * 2 + 1, none⟩ = some (.int .i64 (es.getD i (0, 0)).2) := by
  rcases own_rdE h with e1 | ⟨b, off, e1, hb, hc⟩
  · rw [e1] at hn; simp at hn; omega
  · injection e1 with e1
    injection e1 with e1 e2 _
    subst e1; subst e2
    have := hc i (by omega)
    rw [Nat.zero_add] at this
    exact this
theorem own_setE {w : World} {base : Nat} {e : TypeId} {n c g : Nat} {es : List (Int × Int)} (h : w.ownsRow base e 2 (.slice (some ⟨g, 0, none⟩) n c) n (cE es)) (hn : es.length = n) {i : Nat} (hi : i < n) (a b : Int) :
    ((w.setCell ⟨g, i * 2, none⟩ (.int .i64 a)).setCell ⟨g, i * 2 + 1, none⟩ (.int .i64 b)).ownsRow base e 2 (.slice (some ⟨g, 0, none⟩) n c) n (cE (es.set i (a, b))) := by
  refine ⟨by simpa [length_cE] using h.1, .inr ?_⟩
  rcases h.2 with ⟨h1, _⟩ | ⟨g', cap, cur, hv, hge, hh, h6, h7, h8, ht⟩
  · cases h1
  · injection hv with h1 h2 h3
    injection h1 with h1
    injection h1 with h1 _ _
    subst h1
    have hB : Blk w g e cur := hh
    refine ⟨g, cap, (cur.setIfInBounds (i * 2) (.int .i64 a)).setIfInBounds (i * 2 + 1) (.int .i64 b), by rw [h3], hge, (hB.set_ (i * 2) _).set_ (i * 2 + 1) _, h6, h7, by simpa using h8, ?_⟩
    rw [Array.toList_setIfInBounds, Array.toList_setIfInBounds, cE_set, ← ht, List.take_set, List.take_set]
theorem own_frE {w : World} {base : Nat} {e : TypeId} {A : Option Addr} {n c : Nat} {es : List (Int × Int)} (h : w.ownsRow base e 2 (.slice A n c) n (cE es)) : FrE w base A es := by
  have h0 := own_rdE h
  obtain ⟨h1, h2⟩ := h
  rw [length_cE] at h1
  rcases h2 with ⟨_, h2⟩ | ⟨g, cap, cur, hv, hg, hh, _⟩
  · exact .inl (List.eq_nil_of_length_eq_zero (by omega))
  · injection hv with hv _ _
    subst hv
    rcases h0 with h0 | ⟨b, off, e1, hb, hc⟩
    · exact .inl h0
    · injection e1 with e1; injection e1 with e1 e2 _
      subst e1; subst e2
      exact .inr ⟨g, 0, rfl, hg, hb, fun o => Blk.frozen (t := e) hh o, hc⟩

open Go.Maps in
/-- Append of edges that can be read to a slice that the call owns. -/
theorem wp_appendE {o : Oper} {a : Act} {K : Act → World → Prop} {Q : Exit → Act → World → Prop} {w : World} {s x : Operand}
    (ho : o.op = .call { callee := .builtin .append, args := #[s, x], argTypes := #[26, 26] })
    (base : Nat) (v : Value) (n : Nat) (es : List (Int × Int)) (hs : a.eval s = v) (hown : w.ownsRow base 40 2 v n (cE es))
    (b off m c : Nat) (news : List (Int × Int)) (hx : a.eval x = .slice (some ⟨b, off, none⟩) m c) (hm : news.length = m) (hy : RdE w (some ⟨b, off, none⟩) news) (hn : n ≤ 1000000) (hm2 : m ≤ 1000000) (hbase : base ≤ w.heap.size)
    (h : ∀ v' w', w'.ownsRow base 40 2 v' (n + m) (cE (es ++ news)) → (∀ B w0, B ≤ base → Below B w0 w → Below B w0 w') → w.grownBy w' v.ownBlock → K (a.put o.dst v') w') : o.wp Tryz.prog a w K Q := by
  obtain ⟨i0, hi0, hz0, hz1, hz2⟩ := info_parts infoE
  have hcell : ∀ j u, (cE news)[j]? = some u → w.cell? ((⟨b, off, none⟩ : Addr).add j) = some u := fun j u hj => by
    have hj2 : j < (cE news).length := (List.getElem?_eq_some_iff.1 hj).1
    rw [length_cE] at hj2
    obtain ⟨b2, off2, e, hb, hc⟩ := hy.pos (by omega)
    injection e with e
    injection e with e1 e2 _
    subst e1; subst e2
    rw [Addr.add_lit]
    obtain ⟨i, rfl | rfl⟩ : ∃ i, j = i * 2 ∨ j = i * 2 + 1 := ⟨j / 2, by omega⟩
    · rw [getD_cE0 _ _ (by omega)] at hj
      injection hj with hj
      subst hj
      exact (hc i (by omega)).1
    · rw [getD_cE1 _ _ (by omega)] at hj
      injection hj with hj
      subst hj
      rw [← Nat.add_assoc]; exact (hc i (by omega)).2
  refine wp_append_own w s x _ ho base 40 i0 (.agg #[.int .i64 0, .int .i64 0]) 2 16 Tryz.underlying26 hi0 hz0 hz1 hz2 rfl (by decide) v n (cE es) hs hown ⟨b, off, none⟩ m c (cE news) hx (by rw [length_cE, hm]) hcell ?_ (by unfold maxLen; omega) (by omega) hbase ?_
  · intro u hu
    simp only [cE, List.mem_flatMap] at hu
    obtain ⟨y, _, hu⟩ := hu
    simp at hu
    rcases hu with rfl | rfl <;> rfl
  · intro v' w' h1 h2 _
    rw [← cE_append] at h1
    exact h v' w' h1 (fun B w0 hB hb => hb.trans (own_grown_below (Below.refl _ _) (own_mono hown hB) h2 (Nat.le_trans hB hbase))) h2
theorem wpList_appendE {ops : Array Oper} {rest : List Oper} {o : Oper} {a : Act} {Q : Exit → Act → World → Prop} {w : World} {s x : Operand} (hgd : o.guard = none)
    (ho : o.op = .call { callee := .builtin .append, args := #[s, x], argTypes := #[26, 26] })
    (base : Nat) (v : Value) (n : Nat) (es : List (Int × Int)) (hs : a.eval s = v) (hown : w.ownsRow base 40 2 v n (cE es))
    (b off m c : Nat) (news : List (Int × Int)) (hx : a.eval x = .slice (some ⟨b, off, none⟩) m c) (hm : news.length = m) (hy : RdE w (some ⟨b, off, none⟩) news) (hn : n ≤ 1000000) (hm2 : m ≤ 1000000) (hbase : base ≤ w.heap.size)
    (h : ∀ v' w', w'.ownsRow base 40 2 v' (n + m) (cE (es ++ news)) → (∀ B w0, B ≤ base → Below B w0 w → Below B w0 w') → w.grownBy w' v.ownBlock → wpList Tryz.prog ops Q rest (a.put o.dst v') w') : wpList Tryz.prog ops Q (o :: rest) a w :=
  wpList_plain hgd fun _ hK => wp_appendE ho base v n es hs hown b off m c news hx hm hy hn hm2 hbase fun v' w' h1 h2 h3 => hK _ _ (h v' w' h1 h2 h3)

/-- A block that is not the appended slice's own stays. -/
theorem Blk.grown {w w0 w' : World} {g t : Nat} {cs : Array Value} {v : Value} {base : Nat} {e : TypeId} {size n : Nat} {xs : List Value} (h : Blk w g t cs) (hg : w.grownBy w' v.ownBlock) (hown : w0.ownsRow base e size v n xs) (hlt : w0.heap.size ≤ g) : Blk w' g t cs :=
  (hg.block g h.lt (fun e => by have := (hown.lt g e.symm).2; omega)).trans h
/-- A graph and a code are returned; the memory of its edges is none below n0. -/
def RetG (w : World) (n0 : Nat) (e : Ending) (m : Int) (es : List (Int × Int)) (v : Int) : Prop := ∃ A c, e = .returned (.tuple #[.agg #[.int .i64 m, .slice A es.length c], .int .i64 v]) ∧ FrE w n0 A es
theorem RetG.open_ {w : World} {n0 M : Nat} {e : Ending} {m v : Int} {es : List (Int × Int)} (h : RetG w n0 e m es v) (hM : es.length = M) : ∃ A c, e = .returned (.tuple #[.agg #[.int .i64 m, .slice A M c], .int .i64 v]) ∧ FrE w n0 A es := by
  obtain ⟨A, c, h1, h2⟩ := h
  exact ⟨A, c, by rw [h1, hM], h2⟩
theorem RetG.mono {w : World} {n0 n1 : Nat} {e : Ending} {m v : Int} {es : List (Int × Int)} (h : RetG w n0 e m es v) (hn : n1 ≤ n0) : RetG w n1 e m es v := by
  obtain ⟨A, c, h1, h2⟩ := h
  exact ⟨A, c, h1, h2.mono hn⟩
end Go.Proofs.YtjgmoffkecnmcaaGreat
