/- slices.Delete of one edge. -/
import Derived.Test.YtkpnplldnihalaaTe1
namespace Go.Proofs.Ytkpnplldnihalaa
open Go.RowKit
set_option linter.unusedSimpArgs false
set_option linter.unusedVariables false
set_option maxRecDepth 20000

theorem cE_drop (es : List (Int × Int)) : ∀ (e j : Nat), (cE (es.drop e))[j]? = (cE es)[e * 2 + j]? := by
  induction es with
  | nil => intro e j; simp [cE]
  | cons x es ih =>
    intro e j
    match e with
    | 0 => simp
    | e + 1 =>
      rw [List.drop_succ_cons, ih, cE_cons, show (e + 1) * 2 + j = e * 2 + j + 1 + 1 by omega]
      rfl

theorem below_setCells {B : Nat} {w : World} (b : Nat) (hB : B ≤ b) : ∀ (vs : List Value) (o : Nat) (w' : World), Below B w w' → Below B w (w'.setCells b o vs)
  | [], _, _, h => h
  | v :: vs, o, w', h => below_setCells b hB vs (o + 1) _ (h.setCell (p := ⟨b, o, none⟩) hB v)
theorem size_setCells (b : Nat) : ∀ (vs : List Value) (o : Nat) (w' : World), (w'.setCells b o vs).heap.size = w'.heap.size
  | [], _, _ => rfl
  | v :: vs, o, w' => (size_setCells b vs (o + 1) _).trans (by simp [World.setCell])

set_option maxHeartbeats 4000000 in
theorem deleteE_b (g L c e base : Nat) (es : List (Int × Int)) (w : World) (hown : w.ownsRow base 61 2 (.slice (some ⟨g, 0, none⟩) L c) L (cE es)) (hL : Hid (es.length = L)) (he : e < L) (hl : L ≤ 1000) :
    Calls Try.prog 54 #[.slice (some ⟨g, 0, none⟩) L c, .int .i64 e, .int .i64 ((e : Int) + 1)] w fun r w' => r = .returned (.slice (some ⟨g, 0, none⟩) (L - 1) c) ∧ RdE w' (some ⟨g, 0, none⟩) (dropE es e) ∧ Below base w w' := by
  obtain ⟨i0, hi, hz0, hz1, hz2⟩ := info_parts infoE
  obtain ⟨cur, hB, hge, hLc, hcm, hcs, ht⟩ : ∃ cur : Array Value, Blk w g 61 cur ∧ base ≤ g ∧ L ≤ c ∧ c ≤ maxLen ∧ cur.size = c * 2 ∧ cur.toList.take (L * 2) = cE es := by
    rcases hown.2 with ⟨h1, _⟩ | ⟨g', cap, cur, hv, h1, hh, h2, h3, h4, h5⟩
    · cases h1
    · injection hv with h6 h7 h8
      injection h6 with h6
      injection h6 with h6 _ _
      subst h6; subst h8
      exact ⟨cur, hh, h1, h2, h3, h4, h5⟩
  have hcell : ∀ j, j < L * 2 → w.cell? ⟨g, j, none⟩ = (cE es)[j]? := fun j hj => by
    rw [hB.cell, ← ht, List.getElem?_take_of_lt hj, Array.getElem?_toList]
  have hsome : ∀ j, j < c * 2 → (w.cell? ⟨g, j, none⟩).isSome = true := fun j hj => by
    rw [hB.cell]; simp [hcs, hj]
  have hfz := fun j => hB.frozen j
  obtain ⟨news, hnews⟩ : ∃ news, news = cE (es.drop (e + 1)) := ⟨_, rfl⟩
  have hnl : news.length = (L - (e + 1)) * 2 := by rw [hnews, length_cE, List.length_drop, hL.out]
  obtain ⟨A, hA, hsrc⟩ : ∃ A : Addr, (if c = e + 1 then some (⟨g, 0, none⟩ : Addr) else some ⟨g, (e + 1) * 2, none⟩) = some A ∧ Hid (∀ t u, news[t]? = some u → w.drew.cell? (A.add t) = some u) := by
    by_cases h : c = e + 1
    · refine ⟨⟨g, 0, none⟩, by simp [h], fun t u hu => ?_⟩
      have h0 : news.length = 0 := by rw [hnl]; omega
      rw [List.length_eq_zero_iff.1 h0] at hu
      simp at hu
    · refine ⟨⟨g, (e + 1) * 2, none⟩, by simp [h], fun t u hu => ?_⟩
      have ht' : t < (L - (e + 1)) * 2 := by
        have := (List.getElem?_eq_some_iff.1 hu).1
        rwa [hnl] at this
      rw [hnews, cE_drop] at hu
      rw [Addr.add_lit]
      exact (hcell _ (by omega)).trans hu
  have s2 : Hid (∀ u ∈ news, u.oneCell' = true) := fun u hu => cE_mem (by rw [hnews] at hu; exact hu)
  have s1 : Hid (news.length = (L - (e + 1)) * 2) := hnl
  have s3 : Hid (∀ t, t < news.length → (w.drew.cell? ⟨g, 0 + e * 2 + t, none⟩).isSome = true ∧ w.drew.frozen? ⟨g, 0 + e * 2 + t, none⟩ = false) := by
    intro t ht'
    rw [hnl] at ht'
    exact ⟨hsome _ (by omega), hfz _⟩
  obtain ⟨W1, hW1⟩ : ∃ W1, W1 = w.drew.setCells g (0 + e * 2) news := ⟨_, rfl⟩
  have hW : Hid (W1 = w.drew.setCells g (0 + e * 2) news) := hW1
  have hsome1 : ∀ j, j < c * 2 → (W1.cell? ⟨g, j, none⟩).isSome = true := fun j hj => by
    rw [hW1, Nat.zero_add]
    by_cases hin : e * 2 ≤ j ∧ j < e * 2 + news.length
    · obtain ⟨t, rfl⟩ : ∃ t, j = e * 2 + t := ⟨j - e * 2, by omega⟩
      rw [World.cell?_setCells_in g news (e * 2) w.drew (fun t ht' => by have := (s3.out t ht').1; rwa [Nat.zero_add] at this) t (by omega)]
      rfl
    · rw [World.cell?_setCells_out g news (e * 2) w.drew ⟨g, j, none⟩ (fun _ _ => by show j < e * 2 ∨ e * 2 + news.length ≤ j; omega)]
      exact hsome j hj
  have hfz1 : ∀ j, W1.frozen? ⟨g, j, none⟩ = false := fun j => by rw [hW1, World.frozen?_setCells]; exact hfz j
  have eL : e + (L - (e + 1)) = L - 1 := by omega
  have eL2 : L - (L - 1) = 1 := by omega
  have hcl : ∀ ty, (Builtin.clear_ #[28] ty #[.slice (some ⟨g, (e + (L - (e + 1))) * 2, none⟩) (L - (e + (L - (e + 1)))) (c - (e + (L - (e + 1))))]).run Try.prog W1 = .ok (.tuple #[]) (W1.setCells g ((L - 1) * 2) [.int .i64 0, .int .i64 0]) := fun ty => by
    rw [eL, eL2]
    exact run_clear_edge W1 ty g ((L - 1) * 2) _ (hsome1 _ (by omega)) (hsome1 _ (by omega)) (hfz1 _) (hfz1 _)
  have hfin : Hid (∀ j, j < L - 1 → (W1.setCells g ((L - 1) * 2) [.int .i64 0, .int .i64 0]).cell? ⟨g, j * 2, none⟩ = some (.int .i64 ((dropE es e).getD j (0, 0)).1) ∧ (W1.setCells g ((L - 1) * 2) [.int .i64 0, .int .i64 0]).cell? ⟨g, j * 2 + 1, none⟩ = some (.int .i64 ((dropE es e).getD j (0, 0)).2)) := fun j hj => by
    have key : ∀ s, s < 2 → (W1.setCells g ((L - 1) * 2) [.int .i64 0, .int .i64 0]).cell? ⟨g, j * 2 + s, none⟩ = if j < e then (cE es)[j * 2 + s]? else (cE es)[(j + 1) * 2 + s]? := fun s hs => by
      rw [World.cell?_setCells_out g _ ((L - 1) * 2) W1 ⟨g, j * 2 + s, none⟩ (fun _ _ => by show j * 2 + s < (L - 1) * 2 ∨ _; omega), hW1, Nat.zero_add]
      by_cases hje : j < e
      · rw [if_pos hje, World.cell?_setCells_out g news (e * 2) w.drew ⟨g, j * 2 + s, none⟩ (fun _ _ => by show j * 2 + s < e * 2 ∨ _; omega)]
        exact hcell _ (by omega)
      · rw [if_neg hje]
        obtain ⟨t, ht2⟩ : ∃ t, j * 2 + s = e * 2 + t := ⟨j * 2 + s - e * 2, by omega⟩
        have htn : t < news.length := by rw [hnl]; omega
        rw [ht2, World.cell?_setCells_in g news (e * 2) w.drew (fun t ht' => by have := (s3.out t ht').1; rwa [Nat.zero_add] at this) t htn, ← List.getElem?_eq_getElem htn, hnews, cE_drop]
        congr 1
        omega
    rw [dropE_getD (by rw [hL.out]; exact he)]
    have k0 := key 0 (by omega)
    have k1 := key 1 (by omega)
    have hlen := hL.out
    by_cases hje : j < e
    · rw [if_pos hje] at k0 k1 ⊢
      exact ⟨k0.trans (getD_cE0 es j (by omega)), k1.trans (getD_cE1 es j (by omega))⟩
    · rw [if_neg hje] at k0 k1 ⊢
      exact ⟨k0.trans (getD_cE0 es (j + 1) (by omega)), k1.trans (getD_cE1 es (j + 1) (by omega))⟩
  have hbl : Hid (Below base w (W1.setCells g ((L - 1) * 2) [.int .i64 0, .int .i64 0])) := by
    show Below _ _ _
    rw [hW1]
    exact below_setCells g hge _ _ _ (below_setCells g hge _ _ _ (Below.drew (Below.refl _ _)))
  have hsz : Hid (g < (W1.setCells g ((L - 1) * 2) [.int .i64 0, .int .i64 0]).heap.size) := by
    show _ < _
    rw [size_setCells, hW1, size_setCells]
    exact hB.lt
  have hec : e ≤ c := by omega
  have hec2 : e + 1 ≤ c := by omega
  have b1 : (0 : Int) ≤ (e : Int) + 1 := by omega
  have b2 : (e : Int) + 1 ≤ (L : Int) := by omega
  clear hW1 hcell hsome hfz hnews hnl hB ht hown hsome1 hfz1 eL eL2
  go_enter Try.func54, Try.ntmps54
  go_wp2_with fail
  go_region_law (refine step_append_room rfl (.tmp 22) (.tmp 25) 28 rfl 61 i0 2 Try.underlying28 hi hz1 g 0 e c (by simp [Act.eval, Act.put]) A (L - (e + 1)) (c - (e + 1)) news (by simp [Act.eval, Act.put]) s1.out hsrc.out s2.out (by omega) s3.out ?_; rw [← hW.out])
  go_wp2
  go_ret
  refine ⟨by rw [show e + (L - (e + 1)) = L - 1 by omega]; rfl, ?_, hbl.out⟩
  refine .inr ⟨g, 0, rfl, hsz.out, fun j hj => ?_⟩
  rw [dropE_len (by rw [hL.out]; exact he), hL.out] at hj
  simpa using hfin.out j hj
end Go.Proofs.Ytkpnplldnihalaa
