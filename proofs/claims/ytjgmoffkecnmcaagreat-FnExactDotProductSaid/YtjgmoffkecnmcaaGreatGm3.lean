/- The reference's order of edges: l01Before, l01Sort, l01Made. -/
import Derived.Test.YtjgmoffkecnmcaaGreatGm2
import Derived.StillTailTactics
namespace Go.Proofs.YtjgmoffkecnmcaaGreat
open Go.RowKit
set_option linter.unusedSimpArgs false
set_option linter.unusedVariables false
set_option maxRecDepth 20000

theorem made_step {es : List (Int × Int)} {k at_ : Nat} {P : List (Int × Int)} {e : Int × Int} (hk : k < es.length) (hP : madeE (es.take k) = P) (he : mmE (es.getD k (0, 0)) = e) (hat : at_ ≤ k)
    (h1 : 0 < at_ → ¬ cmpE e (P.getD (at_ - 1) (0, 0)) < 0) (h2 : ∀ i, at_ ≤ i → i < k → cmpE e (P.getD i (0, 0)) < 0) : insE P at_ e = madeE (es.take (k + 1)) := by
  have hl : P.length = k := by rw [← hP, madeE_len, List.length_take]; omega
  have ht : es.take (k + 1) = es.take k ++ [es.getD k (0, 0)] := by
    rw [List.take_add_one, List.getElem?_eq_getElem hk]
    simp [List.getD, hk]
  refine sortE_unique ?_ ?_
  · rw [ht, List.map_append]
    refine (insE_perm P at_ e).trans ?_
    rw [← hP, ← he]
    exact (sortE_perm ((es.take k).map mmE)).append (List.Perm.refl _)
  · refine insE_sorted (by omega) (by rw [← hP]; exact sortE_sorted _) (fun h => ?_) (fun i hi hl2 => ?_)
    · unfold leE; have := h1 h; simpa using this
    · have := (cmpE_neg _ _).1 (h2 i hi (by omega))
      rw [leE_iff]; omega
theorem own_ne {w : World} {base : Nat} {e t : TypeId} {n c g k : Nat} {x y : Value} {xs : List Value} (h : w.ownsRow base e 2 (.slice (some ⟨g, 0, none⟩) n c) n xs) (hn : 1 < n) (hk : Blk w k t #[x, y]) : k ≠ g := by
  rintro rfl
  rcases h.2 with ⟨h1, _⟩ | ⟨g', cap, cur, hv, hge, hh, h6, h7, h8, ht⟩
  · cases h1
  · injection hv with h1 h2 h3
    injection h1 with h1
    injection h1 with h1 _ _
    subst h1
    unfold Blk at hk
    rw [hk] at hh
    injection hh with hh
    injection hh with hh _ _
    subst hh
    simp at h8
    omega

set_option maxHeartbeats 8000000 in
theorem l01Sort_b (A : Option Addr) (c : Nat) (es : List (Int × Int)) (w : World) (hl : es.length ≤ 10000) (hr : RdE w A es) :
    Calls Tryz.prog 45 #[.slice A es.length c] w fun e w' => ∃ A' c', e = .returned (.slice A' es.length c') ∧ FrE w' w.heap.size A' (madeE es) ∧ Below w.heap.size w w' := by
  have Hre : Hid (∀ W, Below w.heap.size w W → RdE W A es) := fun W hW => hr.below hW
  clear hr
  obtain ⟨m, Hm⟩ : ∃ m, Hid (es.length = m) := ⟨_, rfl⟩
  rw [Hm.out] at hl ⊢
  go_enter Tryz.func45, Tryz.ntmps45
  go_wp2
  go_loopw [3, 4] (fun s i wr => ∃ k : Nat, k ≤ m ∧ i = .int .i64 k ∧ Hid (wr.ownsRow w.heap.size 40 2 s k (cE (madeE (es.take k)))) ∧ Hid (Below w.heap.size w wr)) (fun _ i _ => m - (intOf i).toNat)
  case atStart => exact ⟨0, Nat.zero_le _, rfl, (by show World.ownsRow _ _ _ _ _ _ _; rw [show madeE (es.take 0) = [] by simp [madeE, sortE]]; exact own_mono (own_blk (xs := []) (Blk.new w 40 #[]) (by simp) (by decide)) (Nat.le_refl _)), (by show Below _ _ _; (repeat' (first | (with_reducible exact Below.refl _ _) | (with_reducible assumption) | (with_reducible refine Below.alloc ?_ ?_ _) | (with_reducible refine Below.drew ?_) | (with_reducible refine below_drewN ?_ _) | (with_reducible refine Below.setCell ?_ ?_ _) | (with_reducible refine Below.trans ?_ (Below.mono (by assumption) ?_)) | (first | omega | (simp only [World.size_alloc, World.size_setCell, World.size_drew]; omega) | (simp; omega) | (simp; done)))))⟩
  case round =>
    obtain ⟨k, hk, rfl, Hown, Hbel⟩ := hrel
    obtain ⟨A1, c1, rfl⟩ := own_form Hown.out
    have hsz := Hbel.out.size
    by_cases hlt : k < m
    · obtain ⟨b, off, rfl, hb, hc⟩ := (Hre.out wr Hbel.out).pos (by rw [Hm.out]; omega)
      obtain ⟨hc0, hc1⟩ := hc k (by rw [Hm.out]; exact hlt)
      obtain ⟨⟨x, y⟩, Hxy⟩ : ∃ x, Hid (es.getD k (0, 0) = x) := ⟨_, rfl⟩
      rw [Hxy.out] at hc0 hc1
      dsimp only at hc0 hc1
      clear hc
      obtain ⟨P, HP⟩ : ∃ P, Hid (madeE (es.take k) = P) := ⟨_, rfl⟩
      rw [HP.out] at Hown
      obtain ⟨ek, ek2, ek3⟩ := idxF k m hlt
      obtain ⟨lo, Hlo⟩ : ∃ lo, Hid (min x y = lo) := ⟨_, rfl⟩
      obtain ⟨hi, Hhi⟩ : ∃ hi, Hid (max x y = hi) := ⟨_, rfl⟩
      have Hmm : Hid (mmE (es.getD k (0, 0)) = (lo, hi)) := by show _ = _; rw [Hxy.out, ← Hlo.out, ← Hhi.out]; rfl
      have hmin : (if y < x then y else x) = lo := by rw [← Hlo.out]; split <;> omega
      have hmax : (if x < y then y else x) = hi := by rw [← Hhi.out]; split <;> omega
      go_wp2_with fail
      refine wp_region_noPanic ?_
      refine wp_region_held_drew (S := (fun w' => w'.cell? ⟨b, off + k * 2, none⟩ = some (.int .i64 x) ∧ w'.cell? ⟨b, off + k * 2 + 1, none⟩ = some (.int .i64 y))) (by kernel_rfl) ?_ (fun hHeld => ?_)
      · (try dsimp only); (first | go_keep | (obtain ⟨hq, _⟩ := bcell ‹Below _ _ _›; (repeat' apply And.intro) <;> (rw [hq _ _ (by first | assumption | omega | (simp; done) | (simp; omega) | (simp; assumption))] <;> (first | assumption | (simp [*]; done)))))
      refine wpAnyH_take_d (i := 0) (d := some 14) (v := ?v1) rfl rfl (by kernel_rfl) (by kernel_rfl) (by kernel_rfl) (fun _ _ _ h => h) (Or.inl ⟨by kernel_rfl, ?y1⟩) (by assumption) ?_
      case y1 => (intro w' hSw; (try dsimp only at hSw); go_simp; try with_reducible rfl)
      try simp only [Act.put, List.setIfInBounds_toArray, List.set_cons_zero, List.set_cons_succ]
      refine wpAnyH_take_d (i := 1) (d := some 15) (v := ?v2) rfl rfl (by kernel_rfl) (by kernel_rfl) (by kernel_rfl) (fun _ _ _ h => h) (Or.inl ⟨by kernel_rfl, ?y2⟩) (by assumption) ?_
      case y2 => (intro w' hSw; (try dsimp only at hSw); go_simp; try with_reducible rfl)
      try simp only [Act.put, List.setIfInBounds_toArray, List.set_cons_zero, List.set_cons_succ]
      refine wpAnyH_take_d (i := 2) (d := some 16) (v := ?v3) rfl rfl (by kernel_rfl) (by kernel_rfl) (by kernel_rfl) (fun _ _ _ h => h) (Or.inl ⟨by kernel_rfl, ?y3⟩) (by assumption) ?_
      case y3 => (intro w' hSw; (try dsimp only at hSw); go_simp; try with_reducible rfl)
      try simp only [Act.put, List.setIfInBounds_toArray, List.set_cons_zero, List.set_cons_succ]
      refine wpAnyH_take_d (i := 3) (d := some 17) (v := ?v4) rfl rfl (by kernel_rfl) (by kernel_rfl) (by kernel_rfl) (fun _ _ _ h => h) (Or.inl ⟨by kernel_rfl, ?y4⟩) (by assumption) ?_
      case y4 => (intro w' hSw; (try dsimp only at hSw); go_simp; try with_reducible rfl)
      try simp only [Act.put, List.setIfInBounds_toArray, List.set_cons_zero, List.set_cons_succ]
      refine wpAnyH_take_d (i := 4) (d := some 18) (v := ?v5) rfl rfl (by kernel_rfl) (by kernel_rfl) (by kernel_rfl) (fun _ _ _ h => h) (Or.inl ⟨by kernel_rfl, ?y5⟩) (by assumption) ?_
      case y5 => (intro w' hSw; (try dsimp only at hSw); go_simp; try with_reducible rfl)
      try simp only [Act.put, List.setIfInBounds_toArray, List.set_cons_zero, List.set_cons_succ]
      refine wpAnyH_take_d (i := 5) (d := some 19) (v := ?v6) rfl rfl (by kernel_rfl) (by kernel_rfl) (by kernel_rfl) (fun _ _ _ h => h) (Or.inl ⟨by kernel_rfl, ?y6⟩) (by assumption) ?_
      case y6 => (intro w' hSw; (try dsimp only at hSw); go_simp; try with_reducible rfl)
      try simp only [Act.put, List.setIfInBounds_toArray, List.set_cons_zero, List.set_cons_succ]
      refine wpAnyH_take_d (i := 6) (d := some 20) (v := ?v7) rfl rfl (by kernel_rfl) (by kernel_rfl) (by kernel_rfl) (fun _ _ _ h => h) (Or.inl ⟨by kernel_rfl, ?y7⟩) (by assumption) ?_
      case y7 => (intro w' hSw; (try dsimp only at hSw); go_simp; try with_reducible rfl)
      try simp only [Act.put, List.setIfInBounds_toArray, List.set_cons_zero, List.set_cons_succ]
      refine wpAnyH_take_d (i := 7) (d := some 21) (v := ?v8) rfl rfl (by kernel_rfl) (by kernel_rfl) (by kernel_rfl) (fun _ _ _ h => h) (Or.inl ⟨by kernel_rfl, ?y8⟩) (by assumption) ?_
      case y8 => (intro w' hSw; (try dsimp only at hSw); go_simp; try with_reducible rfl)
      try simp only [Act.put, List.setIfInBounds_toArray, List.set_cons_zero, List.set_cons_succ]
      refine wpAnyH_take_d (i := 8) (d := some 22) (v := ?v9) rfl rfl (by kernel_rfl) (by kernel_rfl) (by kernel_rfl) (fun _ _ _ h => h) (Or.inl ⟨by kernel_rfl, ?y9⟩) (by assumption) ?_
      case y9 => (intro w' hSw; (try dsimp only at hSw); go_simp; try with_reducible rfl)
      try simp only [Act.put, List.setIfInBounds_toArray, List.set_cons_zero, List.set_cons_succ]
      refine wpAnyH_take_d (i := 9) (d := some 23) (v := ?v10) rfl rfl (by kernel_rfl) (by kernel_rfl) (by kernel_rfl) (fun _ _ _ h => h) (Or.inl ⟨by kernel_rfl, ?y10⟩) (by assumption) ?_
      case y10 => (intro w' hSw; (try dsimp only at hSw); go_simp; try with_reducible rfl)
      try simp only [Act.put, List.setIfInBounds_toArray, List.set_cons_zero, List.set_cons_succ]
      refine wpAnyH_take_d (i := 10) (d := some 24) (v := ?v11) rfl rfl (by kernel_rfl) (by kernel_rfl) (by kernel_rfl) (fun _ _ _ h => h) (Or.inl ⟨by kernel_rfl, ?y11⟩) (by assumption) ?_
      case y11 => (intro w' hSw; (try dsimp only at hSw); go_simp; try with_reducible rfl)
      try simp only [Act.put, List.setIfInBounds_toArray, List.set_cons_zero, List.set_cons_succ]
      refine wpAnyH_take_d (i := 11) (d := some 25) (v := ?v12) rfl rfl (by kernel_rfl) (by kernel_rfl) (by kernel_rfl) (fun _ _ _ h => h) (Or.inl ⟨by kernel_rfl, ?y12⟩) (by assumption) ?_
      case y12 => (intro w' hSw; (try dsimp only at hSw); go_simp; try with_reducible rfl)
      try simp only [Act.put, List.setIfInBounds_toArray, List.set_cons_zero, List.set_cons_succ]
      refine wpAnyH_take_d (i := 12) (d := some 26) (v := ?v13) rfl rfl (by kernel_rfl) (by kernel_rfl) (by kernel_rfl) (fun _ _ _ h => h) (Or.inl ⟨by kernel_rfl, ?y13⟩) (by assumption) ?_
      case y13 => (intro w' hSw; (try dsimp only at hSw); go_simp; try with_reducible rfl)
      try simp only [Act.put, List.setIfInBounds_toArray, List.set_cons_zero, List.set_cons_succ]
      refine wpAnyH_take_d (i := 13) (d := some 27) (v := ?v14) rfl rfl (by kernel_rfl) (by kernel_rfl) (by kernel_rfl) (fun _ _ _ h => h) (Or.inl ⟨by kernel_rfl, ?y14⟩) (by assumption) ?_
      case y14 => (intro w' hSw; (try dsimp only at hSw); go_simp; try with_reducible rfl)
      try simp only [Act.put, List.setIfInBounds_toArray, List.set_cons_zero, List.set_cons_succ]
      refine wpAnyH_take_d (i := 14) (d := some 28) (v := ?v15) rfl rfl (by kernel_rfl) (by kernel_rfl) (by kernel_rfl) (fun _ _ _ h => h) (Or.inl ⟨by kernel_rfl, ?y15⟩) (by assumption) ?_
      case y15 => (intro w' hSw; (try dsimp only at hSw); go_simp; try with_reducible rfl)
      try simp only [Act.put, List.setIfInBounds_toArray, List.set_cons_zero, List.set_cons_succ]
      refine wpAnyH_take_d (i := 15) (d := some 29) (v := ?v16) rfl rfl (by kernel_rfl) (by kernel_rfl) (by kernel_rfl) (fun _ _ _ h => h) (Or.inl ⟨by kernel_rfl, ?y16⟩) (by assumption) ?_
      case y16 => (intro w' hSw; (try dsimp only at hSw); go_simp; try with_reducible rfl)
      try simp only [Act.put, List.setIfInBounds_toArray, List.set_cons_zero, List.set_cons_succ]
      refine wpAnyH_take_d (i := 16) (d := some 30) (v := ?v17) rfl rfl (by kernel_rfl) (by kernel_rfl) (by kernel_rfl) (fun _ _ _ h => h) (Or.inl ⟨by kernel_rfl, ?y17⟩) (by assumption) ?_
      case y17 => (intro w' hSw; (try dsimp only at hSw); go_simp; try with_reducible rfl)
      try simp only [Act.put, List.setIfInBounds_toArray, List.set_cons_zero, List.set_cons_succ]
      refine wpAnyH_take_d (i := 17) (d := some 31) (v := ?v18) rfl rfl (by kernel_rfl) (by kernel_rfl) (by kernel_rfl) (fun _ _ _ h => h) (Or.inl ⟨by kernel_rfl, ?y18⟩) (by assumption) ?_
      case y18 => (intro w' hSw; (try dsimp only at hSw); go_simp; try with_reducible rfl)
      try simp only [Act.put, List.setIfInBounds_toArray, List.set_cons_zero, List.set_cons_succ]
      refine wpAnyH_take_d (i := 18) (d := some 32) (v := ?v19) rfl rfl (by kernel_rfl) (by kernel_rfl) (by kernel_rfl) (fun _ _ _ h => h) (Or.inl ⟨by kernel_rfl, ?y19⟩) (by assumption) ?_
      case y19 => (intro w' hSw; (try dsimp only at hSw); go_simp; try with_reducible rfl)
      try simp only [Act.put, List.setIfInBounds_toArray, List.set_cons_zero, List.set_cons_succ]
      refine wpAnyH_take_d (i := 19) (d := some 33) (v := ?v20) rfl rfl (by kernel_rfl) (by kernel_rfl) (by kernel_rfl) (fun _ _ _ h => h) (Or.inl ⟨by kernel_rfl, ?y20⟩) (by assumption) ?_
      case y20 => (intro w' hSw; (try dsimp only at hSw); go_simp; try with_reducible rfl)
      try simp only [Act.put, List.setIfInBounds_toArray, List.set_cons_zero, List.set_cons_succ]
      refine wpAnyH_take_d (i := 20) (d := some 34) (v := ?v21) rfl rfl (by kernel_rfl) (by kernel_rfl) (by kernel_rfl) (fun _ _ _ h => h) (Or.inl ⟨by kernel_rfl, ?y21⟩) (by assumption) ?_
      case y21 => (intro w' hSw; (try dsimp only at hSw); go_simp; try with_reducible rfl)
      try simp only [Act.put, List.setIfInBounds_toArray, List.set_cons_zero, List.set_cons_succ]
      refine wpAnyH_take_d (i := 21) (d := some 35) (v := ?v22) rfl rfl (by kernel_rfl) (by kernel_rfl) (by kernel_rfl) (fun _ _ _ h => h) (Or.inl ⟨by kernel_rfl, ?y22⟩) (by assumption) ?_
      case y22 => (intro w' hSw; (try dsimp only at hSw); go_simp; try with_reducible rfl)
      try simp only [Act.put, List.setIfInBounds_toArray, List.set_cons_zero, List.set_cons_succ]
      refine wpAnyH_take_d (i := 22) (d := some 36) (v := ?v23) rfl rfl (by kernel_rfl) (by kernel_rfl) (by kernel_rfl) (fun _ _ _ h => h) (Or.inl ⟨by kernel_rfl, ?y23⟩) (by assumption) ?_
      case y23 => (intro w' hSw; (try dsimp only at hSw); go_simp; try with_reducible rfl)
      try simp only [Act.put, List.setIfInBounds_toArray, List.set_cons_zero, List.set_cons_succ]
      refine wpAnyH_take_d (i := 23) (d := some 37) (v := ?v24) rfl rfl (by kernel_rfl) (by kernel_rfl) (by kernel_rfl) (fun _ _ _ h => h) (Or.inl ⟨by kernel_rfl, ?y24⟩) (by assumption) ?_
      case y24 => (intro w' hSw; (try dsimp only at hSw); go_simp; try with_reducible rfl)
      try simp only [Act.put, List.setIfInBounds_toArray, List.set_cons_zero, List.set_cons_succ]
      refine wpAnyH_take_d (i := 24) (d := some 38) (v := ?v25) rfl rfl (by kernel_rfl) (by kernel_rfl) (by kernel_rfl) (fun _ _ _ h => h) (Or.inl ⟨by kernel_rfl, ?y25⟩) (by assumption) ?_
      case y25 => (intro w' hSw; (try dsimp only at hSw); go_simp; try with_reducible rfl)
      try simp only [Act.put, List.setIfInBounds_toArray, List.set_cons_zero, List.set_cons_succ]
      refine wpAnyH_ready (rs := [25]) (by kernel_rfl) (by simp) ?_
      refine AllReadyH.cons rfl (fun K hK => ?_) AllReadyH.nil
      go_simp
      refine hK.out _ _ ?s26 (fun hHeld26 => ?_)
      case s26 => ((try dsimp only); (first | go_keep | (obtain ⟨hq, _⟩ := bcell ‹Below _ _ _›; (repeat' apply And.intro) <;> (rw [hq _ _ (by first | assumption | omega | (simp; done) | (simp; omega) | (simp; assumption))] <;> (first | assumption | (simp [*]; done))))))
      clear hK K hHeld
      have hHeld := hHeld26; clear hHeld26
      try simp only [Act.put, List.setIfInBounds_toArray, List.set_cons_zero, List.set_cons_succ]
      refine wpAnyH_ready (rs := [26]) (by kernel_rfl) (by simp) ?_
      refine AllReadyH.cons rfl (fun K hK => ?_) AllReadyH.nil
      go_simp
      refine hK.out _ _ ?s27 (fun hHeld27 => ?_)
      case s27 => ((try dsimp only); (first | go_keep | (obtain ⟨hq, _⟩ := bcell ‹Below _ _ _›; (repeat' apply And.intro) <;> (rw [hq _ _ (by first | assumption | omega | (simp; done) | (simp; omega) | (simp; assumption))] <;> (first | assumption | (simp [*]; done))))))
      clear hK K hHeld
      have hHeld := hHeld27; clear hHeld27
      try simp only [Act.put, List.setIfInBounds_toArray, List.set_cons_zero, List.set_cons_succ]
      refine wpAnyH_take_d (i := 27) (d := some 6) (v := ?v28) rfl rfl (by kernel_rfl) (by kernel_rfl) (by kernel_rfl) (fun _ _ _ h => h) (Or.inl ⟨by kernel_rfl, ?y28⟩) (by assumption) ?_
      case y28 => (intro w' hSw; (try dsimp only at hSw); go_simp; try with_reducible rfl)
      try simp only [Act.put, List.setIfInBounds_toArray, List.set_cons_zero, List.set_cons_succ]
      refine wpAnyH_done (by kernel_rfl) ?_ _
      refine NoPanic.normal ?_
      clear hc0 hc1
      have hB3 : Below w.heap.size w ((wr.alloc (.cells #[.int .i64 lo, .int .i64 hi] 40)).alloc (.cells #[.int .i64 lo, .int .i64 hi] 40)).drew := by have := Hbel.out; (repeat' (first | (with_reducible exact Below.refl _ _) | (with_reducible assumption) | (with_reducible refine Below.alloc ?_ ?_ _) | (with_reducible refine Below.drew ?_) | (with_reducible refine below_drewN ?_ _) | (with_reducible refine Below.setCell ?_ ?_ _) | (with_reducible refine Below.trans ?_ (Below.mono (by assumption) ?_)) | (first | omega | (simp only [World.size_alloc, World.size_setCell, World.size_drew]; omega) | (simp; omega) | (simp; done))))
      have hown2 := own_below Hown.out (show Below wr.heap.size wr ((wr.alloc (.cells #[.int .i64 lo, .int .i64 hi] 40)).alloc (.cells #[.int .i64 lo, .int .i64 hi] 40)).drew by (repeat' (first | (with_reducible exact Below.refl _ _) | (with_reducible assumption) | (with_reducible refine Below.alloc ?_ ?_ _) | (with_reducible refine Below.drew ?_) | (with_reducible refine below_drewN ?_ _) | (with_reducible refine Below.setCell ?_ ?_ _) | (with_reducible refine Below.trans ?_ (Below.mono (by assumption) ?_)) | (first | omega | (simp only [World.size_alloc, World.size_setCell, World.size_drew]; omega) | (simp; omega) | (simp; done)))))
      have hbox : Blk ((wr.alloc (.cells #[.int .i64 lo, .int .i64 hi] 40)).alloc (.cells #[.int .i64 lo, .int .i64 hi] 40)).drew wr.heap.size 40 #[.int .i64 lo, .int .i64 hi] := ((Blk.new wr _ _).alloc _).drew
      have hnew : RdE ((wr.alloc (.cells #[.int .i64 lo, .int .i64 hi] 40)).alloc (.cells #[.int .i64 lo, .int .i64 hi] 40)).drew (some ⟨wr.heap.size + 1, 0, none⟩) [(lo, hi)] :=
        blkE_rd (t := 40) (es := [(lo, hi)]) (Blk.new' (n := wr.heap.size + 1) _ (by simp)).drew
      go_wp2_with (first
        | (at_builtin; refine wpList_appendE rfl rfl w.heap.size _ k P rfl hown2 (wr.heap.size + 1) 0 1 1 [(lo, hi)] rfl rfl hnew (by omega) (by omega) (by simp; omega) ?_))
      intro v' w3 hown3 hfr hgr
      have hb3 := hfr w.heap.size w (Nat.le_refl _) hB3
      have hbox3 := hbox.grown hgr Hown.out (Nat.le_refl _)
      have hPl : Hid (P.length = k) := by show _ = _; rw [← HP.out, madeE_len, List.length_take, Hm.out]; omega
      obtain ⟨g, c2, rfl, hg1, hg2⟩ := own_someI hown3 (by omega)
      have Hge : Hid (w.heap.size ≤ g) := hg1
      have HB : Hid (Below w.heap.size w w3) := hb3
      have HX : Hid (Blk w3 wr.heap.size 40 #[.int .i64 lo, .int .i64 hi]) := hbox3
      have Hne : Hid (0 < k → wr.heap.size ≠ g) := fun h0 => own_ne hown3 (by omega) hbox3
      have Hw : Hid (w3.ownsRow w.heap.size 40 2 (.slice (some ⟨g, 0, none⟩) (k + 1) c2) (k + 1) (cE (insE P k (lo, hi)))) := by
        show World.ownsRow _ _ _ _ _ _ _
        rw [show insE P k (lo, hi) = P ++ [(lo, hi)] by rw [← hPl.out]; exact insE_end P (lo, hi)]
        exact hown3
      clear hown3 hfr hgr hb3 hbox3 hown2 hbox hnew hg1 hg2 hB3 Hown ek ek2 ek3 hmin hmax
      obtain ⟨bx, Hbx⟩ : ∃ bx, bx = wr.heap.size := ⟨_, rfl⟩
      rw [← Hbx] at HX Hne
      go_wp2_with fail
      rw [← Hbx]
      clear Hbx hsz Hbel hb
      go_loopw [6] (fun s wq => ∃ (at_ : Nat) (y : Int × Int), at_ ≤ k ∧ s = .int .i64 at_ ∧ Hid (wq.ownsRow w.heap.size 40 2 (.slice (some ⟨g, 0, none⟩) (k + 1) c2) (k + 1) (cE (insE P at_ y))) ∧ Hid (∀ i, at_ ≤ i → i < k → cmpE (lo, hi) (P.getD i (0, 0)) < 0) ∧ Hid (Blk wq bx 40 #[.int .i64 lo, .int .i64 hi]) ∧ Hid (Below w.heap.size w wq)) (fun s _ => (intOf s).toNat)
      case atStart => exact ⟨k, _, Nat.le_refl _, rfl, Hw, fun i h1 h2 => absurd h1 (by omega), HX, HB⟩
      case round =>
        clear Hw HX HB
        obtain ⟨at_, y, hat, rfl, Hw, Hlt, HX, HB⟩ := hrel
        have zq := HB.out.size
        have zx := HX.out.lt
        have x0 := HX.out.cellAt 0 _ rfl
        have x1 := HX.out.cellAt 1 _ rfl
        rcases Nat.eq_zero_or_pos at_ with h0 | h0
        · subst h0
          have hd : decide ((0 : Int) < 0) = false := rfl
          go_wp2_with fail
          refine wp_region_noPanic ?_
          refine wp_region_held_drew (S := (fun w' => w'.cell? ⟨bx, 0, none⟩ = some (.int .i64 lo) ∧ w'.cell? ⟨bx, 1, none⟩ = some (.int .i64 hi))) (by kernel_rfl) ?_ (fun hHeld => ?_)
          · (try dsimp only); (first | go_keep | (obtain ⟨hq, _⟩ := bcell ‹Below _ _ _›; (repeat' apply And.intro) <;> (rw [hq _ _ (by first | assumption | omega | (simp; done) | (simp; omega) | (simp; assumption))] <;> (first | assumption | (simp [*]; done)))))
          refine wpAnyH_take_d (i := 0) (d := some 43) (v := ?v29) rfl rfl (by kernel_rfl) (by kernel_rfl) (by kernel_rfl) (fun _ _ _ h => h) (Or.inl ⟨by kernel_rfl, ?y29⟩) (by assumption) ?_
          case y29 => (intro w' hSw; (try dsimp only at hSw); go_simp; try with_reducible rfl)
          try simp only [Act.put, List.setIfInBounds_toArray, List.set_cons_zero, List.set_cons_succ]
          refine wpAnyH_take_d (i := 1) (d := some 44) (v := ?v30) rfl rfl (by kernel_rfl) (by kernel_rfl) (by kernel_rfl) (fun _ _ _ h => h) (Or.inl ⟨by kernel_rfl, ?y30⟩) (by assumption) ?_
          case y30 => (intro w' hSw; (try dsimp only at hSw); go_simp; try with_reducible rfl)
          try simp only [Act.put, List.setIfInBounds_toArray, List.set_cons_zero, List.set_cons_succ]
          refine wpAnyH_take_d (i := 2) (d := some 45) (v := ?v31) rfl rfl (by kernel_rfl) (by kernel_rfl) (by kernel_rfl) (fun _ _ _ h => h) (Or.inl ⟨by kernel_rfl, ?y31⟩) (by assumption) ?_
          case y31 => (intro w' hSw; (try dsimp only at hSw); go_simp; try with_reducible rfl)
          try simp only [Act.put, List.setIfInBounds_toArray, List.set_cons_zero, List.set_cons_succ]
          refine wpAnyH_take_d (i := 3) (d := some 46) (v := undef) rfl rfl (by kernel_rfl) (by kernel_rfl) (by kernel_rfl) (fun _ _ _ h => h) (Or.inr ⟨by kernel_rfl, rfl⟩) (by assumption) ?_
          try simp only [Act.put, List.setIfInBounds_toArray, List.set_cons_zero, List.set_cons_succ]
          refine wpAnyH_take_d (i := 4) (d := some 47) (v := undef) rfl rfl (by kernel_rfl) (by kernel_rfl) (by kernel_rfl) (fun _ _ _ h => h) (Or.inr ⟨by kernel_rfl, rfl⟩) (by assumption) ?_
          try simp only [Act.put, List.setIfInBounds_toArray, List.set_cons_zero, List.set_cons_succ]
          refine wpAnyH_take_d (i := 5) (d := some 48) (v := undef) rfl rfl (by kernel_rfl) (by kernel_rfl) (by kernel_rfl) (fun _ _ _ h => h) (Or.inr ⟨by kernel_rfl, rfl⟩) (by assumption) ?_
          try simp only [Act.put, List.setIfInBounds_toArray, List.set_cons_zero, List.set_cons_succ]
          refine wpAnyH_take_d (i := 6) (d := some 49) (v := undef) rfl rfl (by kernel_rfl) (by kernel_rfl) (by kernel_rfl) (fun _ _ _ h => h) (Or.inr ⟨by kernel_rfl, rfl⟩) (by assumption) ?_
          try simp only [Act.put, List.setIfInBounds_toArray, List.set_cons_zero, List.set_cons_succ]
          refine wpAnyH_take_d (i := 7) (d := some 50) (v := undef) rfl rfl (by kernel_rfl) (by kernel_rfl) (by kernel_rfl) (fun _ _ _ h => h) (Or.inr ⟨by kernel_rfl, rfl⟩) (by assumption) ?_
          try simp only [Act.put, List.setIfInBounds_toArray, List.set_cons_zero, List.set_cons_succ]
          refine wpAnyH_take_d (i := 8) (d := some 51) (v := undef) rfl rfl (by kernel_rfl) (by kernel_rfl) (by kernel_rfl) (fun _ _ _ h => h) (Or.inr ⟨by kernel_rfl, rfl⟩) (by assumption) ?_
          try simp only [Act.put, List.setIfInBounds_toArray, List.set_cons_zero, List.set_cons_succ]
          refine wpAnyH_take_d (i := 9) (d := some 52) (v := undef) rfl rfl (by kernel_rfl) (by kernel_rfl) (by kernel_rfl) (fun _ _ _ h => h) (Or.inr ⟨by kernel_rfl, rfl⟩) (by assumption) ?_
          try simp only [Act.put, List.setIfInBounds_toArray, List.set_cons_zero, List.set_cons_succ]
          refine wpAnyH_take_d (i := 10) (d := some 53) (v := ?v39) rfl rfl (by kernel_rfl) (by kernel_rfl) (by kernel_rfl) (fun _ _ _ h => h) (Or.inl ⟨by kernel_rfl, ?y39⟩) (by assumption) ?_
          case y39 => (intro w' hSw; (try dsimp only at hSw); go_simp; try with_reducible rfl)
          try simp only [Act.put, List.setIfInBounds_toArray, List.set_cons_zero, List.set_cons_succ]
          refine wpAnyH_done (by kernel_rfl) ?_ _
          refine NoPanic.normal ?_
          clear hHeld x0 x1
          have Hv : Hid ((wr.drew).ownsRow w.heap.size 40 2 (.slice (some ⟨g, 0, none⟩) (k + 1) c2) (k + 1) (cE (insE P (0) y))) := own_below Hw.out (by (repeat' (first | (with_reducible exact Below.refl _ _) | (with_reducible assumption) | (with_reducible refine Below.alloc ?_ ?_ _) | (with_reducible refine Below.drew ?_) | (with_reducible refine below_drewN ?_ _) | (with_reducible refine Below.setCell ?_ ?_ _) | (with_reducible refine Below.trans ?_ (Below.mono (by assumption) ?_)) | (first | omega | (simp only [World.size_alloc, World.size_setCell, World.size_drew]; omega) | (simp; omega) | (simp; done)))))
          have HX2 : Hid (Blk (wr.drew) bx 40 #[.int .i64 lo, .int .i64 hi]) := HX.out.drew
          have HB2 : Hid (Below w.heap.size w (wr.drew)) := by have := HB.out; show Below _ _ _; (repeat' (first | (with_reducible exact Below.refl _ _) | (with_reducible assumption) | (with_reducible refine Below.alloc ?_ ?_ _) | (with_reducible refine Below.drew ?_) | (with_reducible refine below_drewN ?_ _) | (with_reducible refine Below.setCell ?_ ?_ _) | (with_reducible refine Below.trans ?_ (Below.mono (by assumption) ?_)) | (first | omega | (simp only [World.size_alloc, World.size_setCell, World.size_drew]; omega) | (simp; omega) | (simp; done))))
          generalize wr.drew = V4 at *
          have x0 := HX2.out.cellAt 0 _ rfl
          have x1 := HX2.out.cellAt 1 _ rfl
          have fz := fun o => own_frozen Hv.out o
          have hlen2 : (insE P (0) y).length = k + 1 := by rw [insE_len (by rw [hPl.out]; omega), hPl.out]
          obtain ⟨ea, ea2, ea3⟩ : (0 : Int) ≤ ((0 : Nat) : Int) ∧ ((0 : Nat) : Int) < (k : Int) + 1 ∧ ((0 : Nat) : Int).toNat = 0 := by omega
          obtain ⟨f1, f2⟩ := own_cellE Hv.out hlen2 (show 0 < k + 1 by omega)
          have f3 : (V4.setCell ⟨g, 0, none⟩ (.int .i64 lo)).cell? ⟨g, 1, none⟩ = some (.int .i64 ((insE P 0 y).getD 0 (0, 0)).2) := (sc_other (by simp)).trans f2
          simp only [Nat.zero_mul, Nat.zero_add] at f1 f2
          go_wp2
          clear f1 f2 f3 x0 x1 fz ea ea2 ea3
          refine ⟨⟨k + 1, by omega, by go_num, ?_, (HB2.out.setCell Hge.out _).setCell Hge.out _⟩, by simp [intOf]; omega⟩
          have h9 := own_setE Hv.out hlen2 (show 0 < k + 1 by omega) lo hi
          rw [insE_set (by rw [hPl.out]; omega), made_step (by rw [Hm.out]; exact hlt) HP.out Hmm.out hat (fun h => absurd h (by omega)) Hlt.out] at h9
          exact h9
        · obtain ⟨p, rfl⟩ : ∃ p, at_ = p + 1 := ⟨at_ - 1, by omega⟩
          have hlen : (insE P (p + 1) y).length = k + 1 := by rw [insE_len (by rw [hPl.out]; omega), hPl.out]
          obtain ⟨y0, y1⟩ := own_cellE Hw.out hlen (show p < k + 1 by omega)
          have hgd : (insE P (p + 1) y).getD p (0, 0) = P.getD p (0, 0) := by rw [insE_getD (by rw [hPl.out]; omega), if_pos (by omega)]
          obtain ⟨⟨u, v⟩, Huv⟩ : ∃ u, Hid (P.getD p (0, 0) = u) := ⟨_, rfl⟩
          rw [hgd, Huv.out] at y0 y1
          dsimp only at y0 y1
          obtain ⟨q, hq⟩ : ∃ q, Hid (beforeB (lo, hi) (u, v) = q) := ⟨_, rfl⟩
          have cb := fun W => l01Before_b lo hi u v W q hq
          obtain ⟨a, ha⟩ : ∃ a : Int, a = ((p + 1 : Nat) : Int) := ⟨_, rfl⟩
          rw [← ha]
          have Ha := Lib.hid ha
          clear ha
          have hd : decide ((0 : Int) < a) = true := by have := Ha.out; simp; omega
          have zg := (Hw.out.lt g rfl).2
          have ip : IntKind.i64.wrap (a - 1) = (p : Int) := by rw [IntWalk.i64_in _ (by have := Ha.out; omega)]; have := Ha.out; omega
          obtain ⟨ep, ep2, ep3⟩ : (0 : Int) ≤ (p : Int) ∧ (p : Int) < (k : Int) + 1 ∧ (p : Int).toNat = p := by omega
          go_wp2_with fail
          refine wp_region_noPanic ?_
          refine wp_region_held_drew (S := (fun w' => w'.cell? ⟨bx, 0, none⟩ = some (.int .i64 lo) ∧ w'.cell? ⟨bx, 1, none⟩ = some (.int .i64 hi) ∧ w'.cell? ⟨g, p * 2, none⟩ = some (.int .i64 u) ∧ w'.cell? ⟨g, p * 2 + 1, none⟩ = some (.int .i64 v))) (by kernel_rfl) ?_ (fun hHeld => ?_)
          · (try dsimp only); (first | go_keep | (obtain ⟨hq, _⟩ := bcell ‹Below _ _ _›; (repeat' apply And.intro) <;> (rw [hq _ _ (by first | assumption | omega | (simp; done) | (simp; omega) | (simp; assumption))] <;> (first | assumption | (simp [*]; done)))))
          refine wpAnyH_take_d (i := 0) (d := some 43) (v := ?v40) rfl rfl (by kernel_rfl) (by kernel_rfl) (by kernel_rfl) (fun _ _ _ h => h) (Or.inl ⟨by kernel_rfl, ?y40⟩) (by assumption) ?_
          case y40 => (intro w' hSw; (try dsimp only at hSw); go_simp; try with_reducible rfl)
          try simp only [Act.put, List.setIfInBounds_toArray, List.set_cons_zero, List.set_cons_succ]
          refine wpAnyH_take_d (i := 1) (d := some 44) (v := ?v41) rfl rfl (by kernel_rfl) (by kernel_rfl) (by kernel_rfl) (fun _ _ _ h => h) (Or.inl ⟨by kernel_rfl, ?y41⟩) (by assumption) ?_
          case y41 => (intro w' hSw; (try dsimp only at hSw); go_simp; try with_reducible rfl)
          try simp only [Act.put, List.setIfInBounds_toArray, List.set_cons_zero, List.set_cons_succ]
          refine wpAnyH_take_d (i := 2) (d := some 45) (v := ?v42) rfl rfl (by kernel_rfl) (by kernel_rfl) (by kernel_rfl) (fun _ _ _ h => h) (Or.inl ⟨by kernel_rfl, ?y42⟩) (by assumption) ?_
          case y42 => (intro w' hSw; (try dsimp only at hSw); go_simp; try with_reducible rfl)
          try simp only [Act.put, List.setIfInBounds_toArray, List.set_cons_zero, List.set_cons_succ]
          refine wpAnyH_take_d (i := 3) (d := some 46) (v := ?v43) rfl rfl (by kernel_rfl) (by kernel_rfl) (by kernel_rfl) (fun _ _ _ h => h) (Or.inl ⟨by kernel_rfl, ?y43⟩) (by assumption) ?_
          case y43 => (intro w' hSw; (try dsimp only at hSw); go_simp; try with_reducible rfl)
          try simp only [Act.put, List.setIfInBounds_toArray, List.set_cons_zero, List.set_cons_succ]
          refine wpAnyH_take_d (i := 4) (d := some 47) (v := ?v44) rfl rfl (by kernel_rfl) (by kernel_rfl) (by kernel_rfl) (fun _ _ _ h => h) (Or.inl ⟨by kernel_rfl, ?y44⟩) (by assumption) ?_
          case y44 => (intro w' hSw; (try dsimp only at hSw); go_simp; try with_reducible rfl)
          try simp only [Act.put, List.setIfInBounds_toArray, List.set_cons_zero, List.set_cons_succ]
          refine wpAnyH_take_d (i := 5) (d := some 48) (v := ?v45) rfl rfl (by kernel_rfl) (by kernel_rfl) (by kernel_rfl) (fun _ _ _ h => h) (Or.inl ⟨by kernel_rfl, ?y45⟩) (by assumption) ?_
          case y45 => (intro w' hSw; (try dsimp only at hSw); go_simp; try with_reducible rfl)
          try simp only [Act.put, List.setIfInBounds_toArray, List.set_cons_zero, List.set_cons_succ]
          refine wpAnyH_take_d (i := 6) (d := some 49) (v := ?v46) rfl rfl (by kernel_rfl) (by kernel_rfl) (by kernel_rfl) (fun _ _ _ h => h) (Or.inl ⟨by kernel_rfl, ?y46⟩) (by assumption) ?_
          case y46 => (intro w' hSw; (try dsimp only at hSw); go_simp; try with_reducible rfl)
          try simp only [Act.put, List.setIfInBounds_toArray, List.set_cons_zero, List.set_cons_succ]
          refine wpAnyH_take_d (i := 7) (d := some 50) (v := ?v47) rfl rfl (by kernel_rfl) (by kernel_rfl) (by kernel_rfl) (fun _ _ _ h => h) (Or.inl ⟨by kernel_rfl, ?y47⟩) (by assumption) ?_
          case y47 => (intro w' hSw; (try dsimp only at hSw); go_simp; try with_reducible rfl)
          try simp only [Act.put, List.setIfInBounds_toArray, List.set_cons_zero, List.set_cons_succ]
          refine wpAnyH_take_d (i := 8) (d := some 51) (v := ?v48) rfl rfl (by kernel_rfl) (by kernel_rfl) (by kernel_rfl) (fun _ _ _ h => h) (Or.inl ⟨by kernel_rfl, ?y48⟩) (by assumption) ?_
          case y48 => (intro w' hSw; (try dsimp only at hSw); go_simp; try with_reducible rfl)
          try simp only [Act.put, List.setIfInBounds_toArray, List.set_cons_zero, List.set_cons_succ]
          refine wpAnyH_ready (rs := [9]) (by kernel_rfl) (by simp) ?_
          refine AllReadyH.cons rfl (fun K hK => ?_) AllReadyH.nil
          go_simp
          refine (cb _).mono ?_; rintro e w4 ⟨rfl, hb4⟩
          refine hK.out _ _ ?s49 (fun hHeld49 => ?_)
          case s49 => ((try dsimp only); (first | go_keep | (obtain ⟨hq, _⟩ := bcell ‹Below _ _ _›; (repeat' apply And.intro) <;> (rw [hq _ _ (by first | assumption | omega | (simp; done) | (simp; omega) | (simp; assumption))] <;> (first | assumption | (simp [*]; done))))))
          clear hK K hHeld
          have hHeld := hHeld49; clear hHeld49
          try simp only [Act.put, List.setIfInBounds_toArray, List.set_cons_zero, List.set_cons_succ]
          refine wpAnyH_take_d (i := 10) (d := some 53) (v := ?v50) rfl rfl (by kernel_rfl) (by kernel_rfl) (by kernel_rfl) (fun _ _ _ h => h) (Or.inl ⟨by kernel_rfl, ?y50⟩) (by assumption) ?_
          case y50 => (intro w' hSw; (try dsimp only at hSw); go_simp; try with_reducible rfl)
          try simp only [Act.put, List.setIfInBounds_toArray, List.set_cons_zero, List.set_cons_succ]
          refine wpAnyH_done (by kernel_rfl) ?_ _
          refine NoPanic.normal ?_
          clear hHeld x0 x1
          have hq2 := hq.out
          rw [beforeB_cmp] at hq2
          cases q
          · have Hno : Hid (¬ cmpE (lo, hi) (P.getD (p + 1 - 1) (0, 0)) < 0) := by show ¬ (_ < _); rw [show p + 1 - 1 = p from rfl, Huv.out]; simpa using hq2
            clear y0 y1
            have Hv : Hid ((w4).ownsRow w.heap.size 40 2 (.slice (some ⟨g, 0, none⟩) (k + 1) c2) (k + 1) (cE (insE P (p + 1) y))) := own_below Hw.out (by (repeat' (first | (with_reducible exact Below.refl _ _) | (with_reducible assumption) | (with_reducible refine Below.alloc ?_ ?_ _) | (with_reducible refine Below.drew ?_) | (with_reducible refine below_drewN ?_ _) | (with_reducible refine Below.setCell ?_ ?_ _) | (with_reducible refine Below.trans ?_ (Below.mono (by assumption) ?_)) | (first | omega | (simp only [World.size_alloc, World.size_setCell, World.size_drew]; omega) | (simp; omega) | (simp; done)))))
            have HX2 : Hid (Blk (w4) bx 40 #[.int .i64 lo, .int .i64 hi]) := (HX.out.drew.below hb4 (by (first | omega | (simp only [World.size_alloc, World.size_setCell, World.size_drew]; omega) | (simp; omega) | (simp; done))))
            have HB2 : Hid (Below w.heap.size w (w4)) := by have := HB.out; show Below _ _ _; (repeat' (first | (with_reducible exact Below.refl _ _) | (with_reducible assumption) | (with_reducible refine Below.alloc ?_ ?_ _) | (with_reducible refine Below.drew ?_) | (with_reducible refine below_drewN ?_ _) | (with_reducible refine Below.setCell ?_ ?_ _) | (with_reducible refine Below.trans ?_ (Below.mono (by assumption) ?_)) | (first | omega | (simp only [World.size_alloc, World.size_setCell, World.size_drew]; omega) | (simp; omega) | (simp; done))))
            have x0 := HX2.out.cellAt 0 _ rfl
            have x1 := HX2.out.cellAt 1 _ rfl
            have fz := fun o => own_frozen Hv.out o
            have hlen2 : (insE P (p + 1) y).length = k + 1 := by rw [insE_len (by rw [hPl.out]; omega), hPl.out]
            obtain ⟨ea, ea2, ea3⟩ : (0 : Int) ≤ a ∧ a < (k : Int) + 1 ∧ a.toNat = p + 1 := by have := Ha.out; omega
            obtain ⟨f1, f2⟩ := own_cellE Hv.out hlen2 (show p + 1 < k + 1 by omega)
            have f3 : (w4.setCell ⟨g, (p + 1) * 2, none⟩ (.int .i64 lo)).cell? ⟨g, (p + 1) * 2 + 1, none⟩ = some (.int .i64 ((insE P (p + 1) y).getD (p + 1) (0, 0)).2) := (sc_other (by simp)).trans f2
            go_wp2
            clear f1 f2 f3 x0 x1 fz ea ea2 ea3
            refine ⟨⟨k + 1, by omega, by go_num, ?_, (HB2.out.setCell Hge.out _).setCell Hge.out _⟩, by simp [intOf]; omega⟩
            have h9 := own_setE Hv.out hlen2 (show p + 1 < k + 1 by omega) lo hi
            rw [insE_set (by rw [hPl.out]; omega), made_step (by rw [Hm.out]; exact hlt) HP.out Hmm.out hat (fun _ => (Hno.out : ¬ cmpE (lo, hi) (P.getD (p + 1 - 1) (0, 0)) < 0)) Hlt.out] at h9
            exact h9
          · have Hyes : Hid (cmpE (lo, hi) (P.getD p (0, 0)) < 0) := by show _ < _; rw [Huv.out]; simpa using hq2
            have Hv : Hid (w4.ownsRow w.heap.size 40 2 (.slice (some ⟨g, 0, none⟩) (k + 1) c2) (k + 1) (cE (insE P (p + 1) y))) := own_below Hw.out (by (repeat' (first | (with_reducible exact Below.refl _ _) | (with_reducible assumption) | (with_reducible refine Below.alloc ?_ ?_ _) | (with_reducible refine Below.drew ?_) | (with_reducible refine below_drewN ?_ _) | (with_reducible refine Below.setCell ?_ ?_ _) | (with_reducible refine Below.trans ?_ (Below.mono (by assumption) ?_)) | (first | omega | (simp only [World.size_alloc, World.size_setCell, World.size_drew]; omega) | (simp; omega) | (simp; done)))))
            have HX2 : Hid (Blk w4 bx 40 #[.int .i64 lo, .int .i64 hi]) := HX.out.drew.below hb4 (by (first | omega | (simp only [World.size_alloc, World.size_setCell, World.size_drew]; omega) | (simp; omega) | (simp; done)))
            have HB2 : Hid (Below w.heap.size w w4) := by have := HB.out; show Below _ _ _; (repeat' (first | (with_reducible exact Below.refl _ _) | (with_reducible assumption) | (with_reducible refine Below.alloc ?_ ?_ _) | (with_reducible refine Below.drew ?_) | (with_reducible refine below_drewN ?_ _) | (with_reducible refine Below.setCell ?_ ?_ _) | (with_reducible refine Below.trans ?_ (Below.mono (by assumption) ?_)) | (first | omega | (simp only [World.size_alloc, World.size_setCell, World.size_drew]; omega) | (simp; omega) | (simp; done))))
            clear y0 y1
            obtain ⟨y0, y1⟩ := own_cellE Hv.out hlen (show p < k + 1 by omega)
            rw [hgd, Huv.out] at y0 y1
            dsimp only at y0 y1
            have fz := fun o => own_frozen Hv.out o
            obtain ⟨ea, ea2, ea3⟩ : (0 : Int) ≤ a ∧ a < (k : Int) + 1 ∧ a.toNat = p + 1 := by have := Ha.out; omega
            obtain ⟨f1, f2⟩ := own_cellE Hv.out hlen (show p + 1 < k + 1 by omega)
            have f3 : (w4.setCell ⟨g, (p + 1) * 2, none⟩ (.int .i64 u)).cell? ⟨g, (p + 1) * 2 + 1, none⟩ = some (.int .i64 ((insE P (p + 1) y).getD (p + 1) (0, 0)).2) := (sc_other (by simp)).trans f2
            clear ip
            have iw : wrap64 (a - 1) = (p : Int) := by have := Ha.out; rw [wrap64_small (by omega) (by omega)]; omega
            go_wp2
            clear f1 f2 f3 fz ea ea2 ea3 y0 y1
            have hne := Hne.out (by clear Ha; omega)
            refine ⟨⟨p, (u, v), by omega, by have := Ha.out; go_num, ?_, fun i h1 h2 => ?_, (HX2.out.far hne _).far hne _, (HB2.out.setCell Hge.out _).setCell Hge.out _⟩, by have := Ha.out; simp only [intOf]; omega⟩
            · have h9 := own_setE Hv.out hlen (show p + 1 < k + 1 by omega) u v
              rw [show (u, v) = P.getD p (0, 0) from Huv.out.symm, insE_step (by rw [hPl.out]; omega), Huv.out] at h9
              exact h9
            · rcases Nat.eq_or_lt_of_le h1 with e | e
              · subst e; exact Hyes.out
              · exact Hlt.out i (by omega) h2
    · obtain rfl : k = m := by omega
      go_wp2
      go_ret
      have hfull : es.take k = es := List.take_of_length_le (by rw [Hm.out]; exact Nat.le_refl _)
      rw [hfull] at Hown
      exact ⟨A1, c1, rfl, own_frE Hown.out, Hbel.out⟩
end Go.Proofs.YtjgmoffkecnmcaaGreat
