/- The reference's l06Ends. No statement of the program is proved here. -/
import Derived.Test.YtjgmoffkecnmcaaGreatOv1
namespace Go.Proofs.YtjgmoffkecnmcaaGreat
open Go.RowKit
set_option linter.unusedSimpArgs false
set_option linter.unusedVariables false
set_option maxRecDepth 20000

/-- The other ends of the edges at v, without the edge of number o. -/
def endW (es : List (Int × Int)) (v o : Int) : List Int := ((atL es v).filter fun a => decide (a ≠ o)).map fun i => (es.getD i.toNat (0, 0)).1 + (es.getD i.toNat (0, 0)).2 - v
theorem endW_none (es : List (Int × Int)) (v : Int) : endW es v (-1) = endsL es v := by
  unfold endW endsL
  congr 1
  rw [List.filter_eq_self]
  intro a ha
  obtain ⟨k, rfl, _⟩ := mem_atL ha
  simp <;> omega

set_option maxHeartbeats 4000000 in
theorem l06Ends_b (n : Int) (A : Option Addr) (c : Nat) (es : List (Int × Int)) (N : Nat) (v o : Int) (w : World) (hl : es.length ≤ 1000) (hN : N ≤ 1000) (hv : 0 ≤ v ∧ v ≤ 1000) (hin : InN N es) (h3 : (atL es v).length = 3) (hr : RdE w A es) :
    Calls Tryz.prog 17 #[.agg #[.int .i64 n, .slice A es.length c], .int .i64 v, .int .i64 o] w fun e w' => ∃ A' c', e = .returned (.slice A' (endW es v o).length c') ∧ w'.ownsRow w.heap.size 2 1 (.slice A' (endW es v o).length c') (endW es v o).length (cI (endW es v o)) ∧ Below w.heap.size w w' := by
  have Ca := Lib.hid fun W (hW : Below w.heap.size w W) => l01At_b n A c es v W hl (hr.below hW)
  have Co := Lib.hid fun W k r (hr2 : Hid ((es.getD k (0, 0)).1 + (es.getD k (0, 0)).2 - v = r)) (hk : k < es.length) (hW : Below w.heap.size w W) => l01Other_b n A c es k v W r hr2 hk hl (by obtain ⟨a, b, h, h1, h2⟩ := hin k hk; rw [h]; dsimp only; omega) (by obtain ⟨a, b, h, h1, h2⟩ := hin k hk; rw [h]; dsimp only; omega) hv (hr.below hW)
  have Hmem : Hid (∀ a, a ∈ atL es v → ∃ k : Nat, a = k ∧ k < es.length ∧ onB (es.getD k (0, 0)) v = true) := fun a h => mem_atL h
  obtain ⟨X, HX⟩ : ∃ X, Hid (atL es v = X) := ⟨_, rfl⟩
  obtain ⟨f, Hf⟩ : ∃ f : Int → Int, Hid ((fun i : Int => (es.getD i.toNat (0, 0)).1 + (es.getD i.toNat (0, 0)).2 - v) = f) := ⟨_, rfl⟩
  have HE : Hid (endW es v o = (X.filter fun a => decide (a ≠ o)).map f) := by show _ = _; rw [← HX.out, ← Hf.out]; rfl
  rw [HE.out]
  rw [HX.out] at h3 Ca Hmem
  have H3 : Hid (X.length = 3) := h3
  simp only [HX.out, h3] at Ca
  clear hr hin h3 hl
  generalize es.length = L0 at *
  go_enter Tryz.func17, Tryz.ntmps17
  go_wp2_with fail
  refine (Ca.out _ (by (repeat' (first | (with_reducible exact Below.refl _ _) | (with_reducible assumption) | (with_reducible refine Below.alloc ?_ ?_ _) | (with_reducible refine Below.drew ?_) | (with_reducible refine below_drewN ?_ _) | (with_reducible refine Below.setCell ?_ ?_ _) | (with_reducible refine Below.trans ?_ (Below.mono (by assumption) ?_)) | (first | omega | (simp only [World.size_alloc, World.size_setCell, World.size_drew]; omega) | (simp; omega) | (simp; done)))))).mono ?_
  rintro e w1 ⟨A1, c1, rfl, hown1, hb1⟩
  have HA1 : Hid (RdI w1 A1 X) := own_rdI hown1
  have HK1 := Lib.hid ((Blk.new w _ _).below hb1 (by simp) : Blk w1 w.heap.size 28 #[.int .i64 n, .slice A L0 c])
  have Hb1 : Hid (Below w.heap.size w w1) := by show Below _ _ _; (repeat' (first | (with_reducible exact Below.refl _ _) | (with_reducible assumption) | (with_reducible refine Below.alloc ?_ ?_ _) | (with_reducible refine Below.drew ?_) | (with_reducible refine below_drewN ?_ _) | (with_reducible refine Below.setCell ?_ ?_ _) | (with_reducible refine Below.trans ?_ (Below.mono (by assumption) ?_)) | (first | omega | (simp only [World.size_alloc, World.size_setCell, World.size_drew]; omega) | (simp; omega) | (simp; done))))
  have s1 := HK1.out.lt
  clear hown1 hb1 Ca
  go_wp2_with fail
  go_loopw [8, 9] (fun s i wr => ∃ k : Nat, k ≤ 3 ∧ i = .int .i64 k ∧ Hid (wr.ownsRow w1.heap.size 2 1 s (((X.take k).filter fun a => decide (a ≠ o)).map f).length (cI (((X.take k).filter fun a => decide (a ≠ o)).map f))) ∧ Hid (Below w1.heap.size w1 wr)) (fun _ i _ => 3 - (intOf i).toNat)
  case atStart => exact ⟨0, by omega, rfl, own_blk (xs := []) (Blk.new' (n := w1.heap.size) (t := 2) (cs := #[]) _ rfl) (by simp) (by decide), by show Below _ _ _; (repeat' (first | (with_reducible exact Below.refl _ _) | (with_reducible assumption) | (with_reducible refine Below.alloc ?_ ?_ _) | (with_reducible refine Below.drew ?_) | (with_reducible refine below_drewN ?_ _) | (with_reducible refine Below.setCell ?_ ?_ _) | (with_reducible refine Below.trans ?_ (Below.mono (by assumption) ?_)) | (first | omega | (simp only [World.size_alloc, World.size_setCell, World.size_drew]; omega) | (simp; omega) | (simp; done))))⟩
  case round =>
    obtain ⟨k, hk, rfl, Hown, Hbel⟩ := hrel
    obtain ⟨A2, c2, rfl⟩ := own_form Hown.out
    have hsz := Hbel.out.size
    by_cases hlt : k < 3
    · obtain ⟨bA, oA, rfl, _, hcA⟩ := (HA1.out.below Hbel.out).pos (by rw [H3.out]; omega)
      have hak := hcA k (by rw [H3.out]; exact hlt)
      obtain ⟨j, hj, hjl, _⟩ := Hmem.out (X.getD k 0) (getD_mem (by rw [H3.out]; exact hlt))
      rw [hj] at hak
      clear hcA
      have hbA : bA < w1.heap.size := by
        obtain ⟨b9, o9, e9, hb9, _⟩ := HA1.out.pos (by rw [H3.out]; omega)
        injection e9 with e9
        injection e9 with e9 _ _
        omega
      have Htk : Hid (X.take (k + 1) = X.take k ++ [(j : Int)]) := by
        show _ = _
        have hk' : k < X.length := by rw [H3.out]; exact hlt
        rw [List.take_add_one, List.getElem?_eq_getElem hk', ← hj]; simp [List.getD, hk']
      obtain ⟨ek, ek2, ek3⟩ := idxF k 3 hlt
      have k00 := (HK1.out.below Hbel.out s1).cellAt 0 _ rfl
      have k01 := (HK1.out.below Hbel.out s1).cellAt 1 _ rfl
      obtain ⟨r, Hr⟩ : ∃ r, Hid ((es.getD j (0, 0)).1 + (es.getD j (0, 0)).2 - v = r) := ⟨_, rfl⟩
      have Hfj : Hid (f (j : Int) = r) := by show _ = _; rw [← Hf.out, ← Hr.out]; simp only [Int.toNat_natCast]
      obtain ⟨P, HP⟩ : ∃ P, Hid (((X.take k).filter fun a => decide (a ≠ o)).map f = P) := ⟨_, rfl⟩
      have HPl : Hid (P.length ≤ 3) := by
        show _ ≤ _
        rw [← HP.out, List.length_map]
        have h1 := List.length_filter_le (fun a => decide (a ≠ o)) (X.take k)
        rw [List.length_take] at h1
        omega
      rw [HP.out] at Hown
      simp only [HP.out]
      clear hj
      by_cases hjo : (j : Int) = o
      · have g0 : ((j : Int) != o) = false := by simpa using hjo
        have Hn : Hid (((X.take (k + 1)).filter fun a => decide (a ≠ o)).map f = P) := by
          show _ = _
          rw [Htk.out, List.filter_append, List.map_append, HP.out]
          simp [hjo]
        clear hjo
        go_wp2
        exact ⟨⟨k + 1, by omega, by go_num, by { show World.ownsRow _ _ _ _ _ _ _; rw [Hn.out]; exact Hown.out }, Hbel⟩, by simp [intOf]; omega⟩
      · have g0 : ((j : Int) != o) = true := by simpa using hjo
        have Hn : Hid (((X.take (k + 1)).filter fun a => decide (a ≠ o)).map f = P ++ [r]) := by
          show _ = _
          rw [Htk.out, List.filter_append, List.map_append, HP.out]
          simp [hjo, Hfj.out]
        have co := Lib.hid fun W hW => Co.out W j r Hr hjl hW
        have hB1 : Below w.heap.size w wr := Hb1.out.trans (Hbel.out.mono (by omega))
        have hbA9 : bA < wr.heap.size := by omega
        have hk9 : w.heap.size < wr.heap.size := by omega
        clear hjo
        go_wp2
        refine wp_region_noPanic ?_
        refine wp_region_held_drew (S := (fun w' => w'.cell? ⟨w.heap.size, 0, none⟩ = some (.int .i64 n) ∧ w'.cell? ⟨w.heap.size, 1, none⟩ = some (.slice A L0 c) ∧ w'.cell? ⟨bA, oA + k, none⟩ = some (.int .i64 (j : Int)))) (by kernel_rfl) ?_ (fun hHeld => ?_)
        · (try dsimp only); (first | exact hS3 | exact hS2 | assumption | (first | go_keep | (obtain ⟨hq, _⟩ := bcell ‹Below _ _ _›; (repeat' apply And.intro) <;> (rw [hq _ _ (by first | assumption | omega | (simp; done) | (simp; omega) | (simp; assumption))] <;> (first | assumption | (simp [*]; done))))))
        refine wpAnyH_take_d (i := 0) (d := some 24) (v := ?v1) rfl rfl (by kernel_rfl) (by kernel_rfl) (by kernel_rfl) (fun _ _ _ h => h) (Or.inl ⟨by kernel_rfl, ?y1⟩) (by assumption) ?_
        case y1 => (intro w' hSw; (try dsimp only at hSw); go_simp; try with_reducible rfl)
        try simp only [Act.put, List.setIfInBounds_toArray, List.set_cons_zero, List.set_cons_succ]
        refine wpAnyH_take_d (i := 1) (d := some 25) (v := ?v2) rfl rfl (by kernel_rfl) (by kernel_rfl) (by kernel_rfl) (fun _ _ _ h => h) (Or.inl ⟨by kernel_rfl, ?y2⟩) (by assumption) ?_
        case y2 => (intro w' hSw; (try dsimp only at hSw); go_simp; try with_reducible rfl)
        try simp only [Act.put, List.setIfInBounds_toArray, List.set_cons_zero, List.set_cons_succ]
        refine wpAnyH_take_d (i := 2) (d := some 26) (v := ?v3) rfl rfl (by kernel_rfl) (by kernel_rfl) (by kernel_rfl) (fun _ _ _ h => h) (Or.inl ⟨by kernel_rfl, ?y3⟩) (by assumption) ?_
        case y3 => (intro w' hSw; (try dsimp only at hSw); go_simp; try with_reducible rfl)
        try simp only [Act.put, List.setIfInBounds_toArray, List.set_cons_zero, List.set_cons_succ]
        refine wpAnyH_take_d (i := 3) (d := some 27) (v := ?v4) rfl rfl (by kernel_rfl) (by kernel_rfl) (by kernel_rfl) (fun _ _ _ h => h) (Or.inl ⟨by kernel_rfl, ?y4⟩) (by assumption) ?_
        case y4 => (intro w' hSw; (try dsimp only at hSw); go_simp; try with_reducible rfl)
        try simp only [Act.put, List.setIfInBounds_toArray, List.set_cons_zero, List.set_cons_succ]
        refine wpAnyH_take_d (i := 4) (d := some 28) (v := ?v5) rfl rfl (by kernel_rfl) (by kernel_rfl) (by kernel_rfl) (fun _ _ _ h => h) (Or.inl ⟨by kernel_rfl, ?y5⟩) (by assumption) ?_
        case y5 => (intro w' hSw; (try dsimp only at hSw); go_simp; try with_reducible rfl)
        try simp only [Act.put, List.setIfInBounds_toArray, List.set_cons_zero, List.set_cons_succ]
        refine wpAnyH_take_d (i := 5) (d := some 29) (v := ?v6) rfl rfl (by kernel_rfl) (by kernel_rfl) (by kernel_rfl) (fun _ _ _ h => h) (Or.inl ⟨by kernel_rfl, ?y6⟩) (by assumption) ?_
        case y6 => (intro w' hSw; (try dsimp only at hSw); go_simp; try with_reducible rfl)
        try simp only [Act.put, List.setIfInBounds_toArray, List.set_cons_zero, List.set_cons_succ]
        refine wpAnyH_take_d (i := 6) (d := some 30) (v := ?v7) rfl rfl (by kernel_rfl) (by kernel_rfl) (by kernel_rfl) (fun _ _ _ h => h) (Or.inl ⟨by kernel_rfl, ?y7⟩) (by assumption) ?_
        case y7 => (intro w' hSw; (try dsimp only at hSw); go_simp; try with_reducible rfl)
        try simp only [Act.put, List.setIfInBounds_toArray, List.set_cons_zero, List.set_cons_succ]
        refine wpAnyH_ready (rs := [7]) (by kernel_rfl) (by simp) ?_
        refine AllReadyH.cons rfl (fun K hK => ?_) AllReadyH.nil
        go_simp
        refine (co.out _ (by (repeat' (first | (with_reducible exact Below.refl _ _) | (with_reducible assumption) | (with_reducible refine Below.alloc ?_ ?_ _) | (with_reducible refine Below.drew ?_) | (with_reducible refine below_drewN ?_ _) | (with_reducible refine Below.setCell ?_ ?_ _) | (with_reducible refine Below.trans ?_ (Below.mono (by assumption) ?_)) | (first | omega | (simp only [World.size_alloc, World.size_setCell, World.size_drew]; omega) | (simp; omega) | (simp; done)))))).mono ?_; rintro e w3 ⟨rfl, hb3⟩; have z3 := hb3.size; (try simp only [World.size_alloc, World.size_setCell, World.size_drew] at z3)
        refine hK.out _ _ ?s8 (fun hHeld8 => ?_)
        case s8 => ((try dsimp only); (first | exact hS3 | exact hS2 | assumption | (first | go_keep | (obtain ⟨hq, _⟩ := bcell ‹Below _ _ _›; (repeat' apply And.intro) <;> (rw [hq _ _ (by first | assumption | omega | (simp; done) | (simp; omega) | (simp; assumption))] <;> (first | assumption | (simp [*]; done)))))))
        clear hK K hHeld
        have hHeld := hHeld8; clear hHeld8
        try simp only [Act.put, List.setIfInBounds_toArray, List.set_cons_zero, List.set_cons_succ]
        have b3 : Below wr.heap.size wr w3 := (Below.drew (Below.refl _ _)).trans hb3; have b4 : Below wr.heap.size wr (w3.alloc (.cells #[.int .i64 r] 2)) := b3.alloc (by omega) _; have hS2 : (w3.alloc (.cells #[.int .i64 r] 2)).cell? ⟨w.heap.size, 0, none⟩ = some (.int .i64 n) ∧ (w3.alloc (.cells #[.int .i64 r] 2)).cell? ⟨w.heap.size, 1, none⟩ = some (.slice A L0 c) ∧ (w3.alloc (.cells #[.int .i64 r] 2)).cell? ⟨bA, oA + k, none⟩ = some (.int .i64 (j : Int)) := ⟨((bcell b4).1 _ _ hk9).trans k00, ((bcell b4).1 _ _ hk9).trans k01, ((bcell b4).1 _ _ hbA9).trans hak⟩
        refine wpAnyH_ready (rs := [8]) (by kernel_rfl) (by simp) ?_
        refine AllReadyH.cons rfl (fun K hK => ?_) AllReadyH.nil
        go_simp
        refine hK.out _ _ ?s9 (fun hHeld9 => ?_)
        case s9 => ((try dsimp only); (first | exact hS3 | exact hS2 | assumption | (first | go_keep | (obtain ⟨hq, _⟩ := bcell ‹Below _ _ _›; (repeat' apply And.intro) <;> (rw [hq _ _ (by first | assumption | omega | (simp; done) | (simp; omega) | (simp; assumption))] <;> (first | assumption | (simp [*]; done)))))))
        clear hK K hHeld
        have hHeld := hHeld9; clear hHeld9
        try simp only [Act.put, List.setIfInBounds_toArray, List.set_cons_zero, List.set_cons_succ]
        refine wpAnyH_ready (rs := [9]) (by kernel_rfl) (by simp) ?_
        refine AllReadyH.cons rfl (fun K hK => ?_) AllReadyH.nil
        refine wp_append1 rfl w1.heap.size _ P.length P rfl (own_below Hown.out b4) ⟨w3.heap.size, 0, none⟩ 1 r rfl (by simp) (by have := HPl.out; omega) (by simp; omega) ?_
        intro g5 c5 w5 hown5 hfr5
        have b5 := hfr5 w1.heap.size wr (Nat.le_refl _) (b4.mono hsz)
        have hS3 : w5.cell? ⟨w.heap.size, 0, none⟩ = some (.int .i64 n) ∧ w5.cell? ⟨w.heap.size, 1, none⟩ = some (.slice A L0 c) ∧ w5.cell? ⟨bA, oA + k, none⟩ = some (.int .i64 (j : Int)) := ⟨((bcell b5).1 _ _ s1).trans k00, ((bcell b5).1 _ _ s1).trans k01, ((bcell b5).1 _ _ hbA).trans hak⟩
        refine hK.out _ _ ?s10 (fun hHeld10 => ?_)
        case s10 => ((try dsimp only); (first | exact hS3 | exact hS2 | assumption | (first | go_keep | (obtain ⟨hq, _⟩ := bcell ‹Below _ _ _›; (repeat' apply And.intro) <;> (rw [hq _ _ (by first | assumption | omega | (simp; done) | (simp; omega) | (simp; assumption))] <;> (first | assumption | (simp [*]; done)))))))
        clear hK K hHeld
        have hHeld := hHeld10; clear hHeld10
        try simp only [Act.put, List.setIfInBounds_toArray, List.set_cons_zero, List.set_cons_succ]
        refine wpAnyH_take_d (i := 10) (d := some 8) (v := ?v11) rfl rfl (by kernel_rfl) (by kernel_rfl) (by kernel_rfl) (fun _ _ _ h => h) (Or.inl ⟨by kernel_rfl, ?y11⟩) (by assumption) ?_
        case y11 => (intro w' hSw; (try dsimp only at hSw); go_simp; try with_reducible rfl)
        try simp only [Act.put, List.setIfInBounds_toArray, List.set_cons_zero, List.set_cons_succ]
        refine wpAnyH_done (by kernel_rfl) ?_ _
        refine NoPanic.normal ?_
        have Hb5 : Hid (Below w1.heap.size w1 w5) := Hbel.out.trans b5
        have Hown5 : Hid (w5.ownsRow w1.heap.size 2 1 (.slice (some ⟨g5, 0, none⟩) (P.length + 1) c5) (((X.take (k + 1)).filter fun a => decide (a ≠ o)).map f).length (cI (((X.take (k + 1)).filter fun a => decide (a ≠ o)).map f))) := by
          show World.ownsRow _ _ _ _ _ _ _
          rw [Hn.out, List.length_append]
          exact hown5
        clear hHeld hS3 hS2 b3 b4 b5 hb3 z3 hown5 hfr5 Hown Hbel k00 k01 hak hB1
        go_wp2
        exact ⟨⟨k + 1, by omega, by go_num, Hown5, Hb5⟩, by simp [intOf]; omega⟩
    · obtain rfl : k = 3 := by omega
      have hfull : X.take 3 = X := List.take_of_length_le (by rw [H3.out]; exact Nat.le_refl _)
      rw [hfull] at Hown
      rw [hfull]
      go_wp2
      go_ret
      exact ⟨A2, c2, rfl, own_mono Hown.out (by omega), Hb1.out.trans (Hbel.out.mono (by omega))⟩
end Go.Proofs.YtjgmoffkecnmcaaGreat
