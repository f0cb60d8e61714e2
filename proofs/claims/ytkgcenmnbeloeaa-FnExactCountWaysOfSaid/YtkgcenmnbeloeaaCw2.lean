/- The walk of impl.CountWaysOf where it counts. -/
import Derived.Test.YtkgcenmnbeloeaaCw
namespace Go.Proofs.Ytkgcenmnbeloeaa
open Go.RowKit
set_option linter.unusedSimpArgs false
set_option linter.unusedVariables false

theorem addW_blk {w : World} {g t : Nat} {xs : List Int} {j : Nat} {u v : Int} (h : Blk w g t (cI xs).toArray) (hu : Hid (xs.getD j 0 = u)) : Blk (w.setCell ⟨g, j, none⟩ (.int .i64 (wrap64 (u + v)))) g t (cI (addW xs j v)).toArray :=
  blkI_set h (by rw [addW, hu.out])

set_option maxHeartbeats 4000000 in
theorem countWays_yes (m : Nat) (A : Option Addr) (c : Nat) (es : List (Int × Int)) (a b k : Nat) (w : World) (hl : es.length ≤ 1048576) (hr : RdE w A es)
    (hg : Hid (isGraphB m es = true)) (ha : a < m) (hb : b < m) (hk : k ≤ 12) :
    Calls Try.prog 9 #[.agg #[.int .i64 m, .slice A es.length c], .int .i64 a, .int .i64 b, .int .i64 k] w fun e w' => e = .returned (.tuple #[.int .i64 ((waysW m es a k).getD b 0), .int .i64 0]) ∧ Below w.heap.size w w' := by
  obtain ⟨hm1, hm2⟩ := isGraphB_n hg.out
  have hin := isGraphB_in hg.out
  rw [Int.toNat_natCast] at hin
  have hin := Lib.hid hin
  have hw0 : wrap64 ((m : Int) - 1) = (m : Int) - 1 := wrap64_small (by omega) (by omega)
  have ha1 : Hid (inB (a : Int) 0 (wrap64 ((m : Int) - 1)) = true) := by show _ = _; rw [hw0]; exact inB_true.2 ⟨by omega, by omega⟩
  have hb1 : Hid (inB (b : Int) 0 (wrap64 ((m : Int) - 1)) = true) := by show _ = _; rw [hw0]; exact inB_true.2 ⟨by omega, by omega⟩
  have hk1 : Hid (inB (k : Int) 0 12 = true) := inB_true.2 ⟨by omega, by omega⟩
  clear hw0
  have ca := fun W => isVertex_b m A es.length c a W true ha1
  have cb := fun W => isVertex_b m A es.length c b W true hb1
  have ck := fun W => within_b k 0 12 W true hk1
  have cg := fun W (hW : Below w.heap.size w W) => graphCode_b m A c es W true true hg hl (hr.below hW)
  have cg : ∀ W (hW : Below w.heap.size w W), Calls Try.prog 21 #[.agg #[.int .i64 m, .slice A es.length c], .bool true] W fun e w' => e = .returned (.int .i64 0) ∧ Below W.heap.size W w' := cg
  have hmk := mk_row Try.underlying37 infoI m (by omega) (by omega)
  simp only [made_int] at hmk
  clear hg ha1 hb1 hk1
  generalize hL : es.length = L at *
  have HL := Lib.hid hL; clear hL
  go_enter Try.func9, Try.ntmps9
  go_wp2
  refine wp_region_noPanic ?_
  refine wp_region_held_drew (S := (fun w' => w'.cell? ⟨w.heap.size, 0, none⟩ = some (.int .i64 m) ∧ w'.cell? ⟨w.heap.size, 1, none⟩ = some (.slice A L c))) (by kernel_rfl) ?_ (fun hHeld => ?_)
  · (try dsimp only); (first | go_keep | (obtain ⟨hq, _⟩ := bcell ‹Below _ _ _›; (repeat' apply And.intro) <;> (rw [hq _ _ (by first | assumption | omega | (simp; done) | (simp; omega) | (simp; assumption))] <;> (first | assumption | (simp [*]; done)))))
  refine wpAnyH_take (i := 0) (v := ?v46) rfl (by kernel_rfl) (by kernel_rfl) (by kernel_rfl) (fun _ _ _ h => h) (Or.inl ⟨by kernel_rfl, ?y46⟩) (by assumption) ?_
  case y46 => (intro w' hSw; (try dsimp only at hSw); go_simp; try with_reducible rfl)
  try simp only [Act.put, List.setIfInBounds_toArray, List.set_cons_zero, List.set_cons_succ]
  refine wpAnyH_take (i := 1) (v := ?v47) rfl (by kernel_rfl) (by kernel_rfl) (by kernel_rfl) (fun _ _ _ h => h) (Or.inl ⟨by kernel_rfl, ?y47⟩) (by assumption) ?_
  case y47 => (intro w' hSw; (try dsimp only at hSw); go_simp; try with_reducible rfl)
  try simp only [Act.put, List.setIfInBounds_toArray, List.set_cons_zero, List.set_cons_succ]
  refine wpAnyH_take (i := 2) (v := ?v48) rfl (by kernel_rfl) (by kernel_rfl) (by kernel_rfl) (fun _ _ _ h => h) (Or.inl ⟨by kernel_rfl, ?y48⟩) (by assumption) ?_
  case y48 => (intro w' hSw; (try dsimp only at hSw); go_simp; try with_reducible rfl)
  try simp only [Act.put, List.setIfInBounds_toArray, List.set_cons_zero, List.set_cons_succ]
  refine wpAnyH_ready (rs := [3]) (by kernel_rfl) (by simp) ?_
  refine AllReadyH.cons rfl (fun K hK => ?_) AllReadyH.nil
  go_simp
  refine (ca _).mono ?_; rintro e w1 ⟨rfl, hb1⟩; have z1 := hb1.size; (try simp only [World.size_alloc, World.size_setCell, World.size_drew] at z1)
  refine hK.out _ _ ?s49 (fun hHeld49 => ?_)
  case s49 => ((try dsimp only); (first | go_keep | (obtain ⟨hq, _⟩ := bcell ‹Below _ _ _›; (repeat' apply And.intro) <;> (rw [hq _ _ (by first | assumption | omega | (simp; done) | (simp; omega) | (simp; assumption))] <;> (first | assumption | (simp [*]; done))))))
  clear hK K hHeld
  have hHeld := hHeld49; clear hHeld49
  try simp only [Act.put, List.setIfInBounds_toArray, List.set_cons_zero, List.set_cons_succ]
  refine wpAnyH_take (i := 4) (v := ?v50) rfl (by kernel_rfl) (by kernel_rfl) (by kernel_rfl) (fun _ _ _ h => h) (Or.inl ⟨by kernel_rfl, ?y50⟩) (by assumption) ?_
  case y50 => (intro w' hSw; (try dsimp only at hSw); go_simp; try with_reducible rfl)
  try simp only [Act.put, List.setIfInBounds_toArray, List.set_cons_zero, List.set_cons_succ]
  refine wpAnyH_take (i := 5) (v := ?v51) rfl (by kernel_rfl) (by kernel_rfl) (by kernel_rfl) (fun _ _ _ h => h) (Or.inl ⟨by kernel_rfl, ?y51⟩) (by assumption) ?_
  case y51 => (intro w' hSw; (try dsimp only at hSw); go_simp; try with_reducible rfl)
  try simp only [Act.put, List.setIfInBounds_toArray, List.set_cons_zero, List.set_cons_succ]
  refine wpAnyH_take (i := 6) (v := ?v52) rfl (by kernel_rfl) (by kernel_rfl) (by kernel_rfl) (fun _ _ _ h => h) (Or.inl ⟨by kernel_rfl, ?y52⟩) (by assumption) ?_
  case y52 => (intro w' hSw; (try dsimp only at hSw); go_simp; try with_reducible rfl)
  try simp only [Act.put, List.setIfInBounds_toArray, List.set_cons_zero, List.set_cons_succ]
  refine wpAnyH_ready (rs := [7]) (by kernel_rfl) (by simp) ?_
  refine AllReadyH.cons rfl (fun K hK => ?_) AllReadyH.nil
  go_simp
  refine (cb _).mono ?_; rintro e w2 ⟨rfl, hb2⟩; have z2 := hb2.size; (try simp only [World.size_alloc, World.size_setCell, World.size_drew] at z2)
  refine hK.out _ _ ?s53 (fun hHeld53 => ?_)
  case s53 => ((try dsimp only); (first | go_keep | (obtain ⟨hq, _⟩ := bcell ‹Below _ _ _›; (repeat' apply And.intro) <;> (rw [hq _ _ (by first | assumption | omega | (simp; done) | (simp; omega) | (simp; assumption))] <;> (first | assumption | (simp [*]; done))))))
  clear hK K hHeld
  have hHeld := hHeld53; clear hHeld53
  try simp only [Act.put, List.setIfInBounds_toArray, List.set_cons_zero, List.set_cons_succ]
  refine wpAnyH_take (i := 8) (v := ?v54) rfl (by kernel_rfl) (by kernel_rfl) (by kernel_rfl) (fun _ _ _ h => h) (Or.inl ⟨by kernel_rfl, ?y54⟩) (by assumption) ?_
  case y54 => (intro w' hSw; (try dsimp only at hSw); go_simp; try with_reducible rfl)
  try simp only [Act.put, List.setIfInBounds_toArray, List.set_cons_zero, List.set_cons_succ]
  refine wpAnyH_take (i := 9) (v := ?v55) rfl (by kernel_rfl) (by kernel_rfl) (by kernel_rfl) (fun _ _ _ h => h) (Or.inl ⟨by kernel_rfl, ?y55⟩) (by assumption) ?_
  case y55 => (intro w' hSw; (try dsimp only at hSw); go_simp; try with_reducible rfl)
  try simp only [Act.put, List.setIfInBounds_toArray, List.set_cons_zero, List.set_cons_succ]
  refine wpAnyH_take (i := 10) (v := ?v56) rfl (by kernel_rfl) (by kernel_rfl) (by kernel_rfl) (fun _ _ _ h => h) (Or.inl ⟨by kernel_rfl, ?y56⟩) (by assumption) ?_
  case y56 => (intro w' hSw; (try dsimp only at hSw); go_simp; try with_reducible rfl)
  try simp only [Act.put, List.setIfInBounds_toArray, List.set_cons_zero, List.set_cons_succ]
  refine wpAnyH_ready (rs := [11]) (by kernel_rfl) (by simp) ?_
  refine AllReadyH.cons rfl (fun K hK => ?_) AllReadyH.nil
  go_simp
  refine (ck _).mono ?_; rintro e w2' ⟨rfl, rfl⟩
  refine hK.out _ _ ?s57 (fun hHeld57 => ?_)
  case s57 => ((try dsimp only); (first | go_keep | (obtain ⟨hq, _⟩ := bcell ‹Below _ _ _›; (repeat' apply And.intro) <;> (rw [hq _ _ (by first | assumption | omega | (simp; done) | (simp; omega) | (simp; assumption))] <;> (first | assumption | (simp [*]; done))))))
  clear hK K hHeld
  have hHeld := hHeld57; clear hHeld57
  try simp only [Act.put, List.setIfInBounds_toArray, List.set_cons_zero, List.set_cons_succ]
  refine wpAnyH_take (i := 12) (v := ?v58) rfl (by kernel_rfl) (by kernel_rfl) (by kernel_rfl) (fun _ _ _ h => h) (Or.inl ⟨by kernel_rfl, ?y58⟩) (by assumption) ?_
  case y58 => (intro w' hSw; (try dsimp only at hSw); go_simp; try with_reducible rfl)
  try simp only [Act.put, List.setIfInBounds_toArray, List.set_cons_zero, List.set_cons_succ]
  refine wpAnyH_ready (rs := [13]) (by kernel_rfl) (by simp) ?_
  refine AllReadyH.cons rfl (fun K hK => ?_) AllReadyH.nil
  go_simp
  refine (cg _ (by (repeat' (first | (with_reducible exact Below.refl _ _) | (with_reducible assumption) | (with_reducible refine Below.alloc ?_ ?_ _) | (with_reducible refine Below.drew ?_) | (with_reducible refine below_drewN ?_ _) | (with_reducible refine Below.setCell ?_ ?_ _) | (with_reducible refine Below.trans ?_ (Below.mono (by assumption) ?_)) | (first | omega | (simp only [World.size_alloc, World.size_setCell, World.size_drew]; omega) | (simp; omega) | (simp; done)))))).mono ?_; rintro e w3 ⟨rfl, hb3⟩
  refine hK.out _ _ ?s59 (fun hHeld59 => ?_)
  case s59 => ((try dsimp only); (first | go_keep | (obtain ⟨hq, _⟩ := bcell ‹Below _ _ _›; (repeat' apply And.intro) <;> (rw [hq _ _ (by first | assumption | omega | (simp; done) | (simp; omega) | (simp; assumption))] <;> (first | assumption | (simp [*]; done))))))
  clear hK K hHeld
  have hHeld := hHeld59; clear hHeld59
  try simp only [Act.put, List.setIfInBounds_toArray, List.set_cons_zero, List.set_cons_succ]
  refine wpAnyH_take (i := 14) (v := ?v60) rfl (by kernel_rfl) (by kernel_rfl) (by kernel_rfl) (fun _ _ _ h => h) (Or.inl ⟨by kernel_rfl, ?y60⟩) (by assumption) ?_
  case y60 => (intro w' hSw; (try dsimp only at hSw); go_simp; try with_reducible rfl)
  try simp only [Act.put, List.setIfInBounds_toArray, List.set_cons_zero, List.set_cons_succ]
  refine wpAnyH_done (by kernel_rfl) ?_ _
  refine NoPanic.normal ?_
  have B : Below w.heap.size w w3 := by (repeat' (first | (with_reducible exact Below.refl _ _) | (with_reducible assumption) | (with_reducible refine Below.alloc ?_ ?_ _) | (with_reducible refine Below.drew ?_) | (with_reducible refine below_drewN ?_ _) | (with_reducible refine Below.setCell ?_ ?_ _) | (with_reducible refine Below.trans ?_ (Below.mono (by assumption) ?_)) | (first | omega | (simp only [World.size_alloc, World.size_setCell, World.size_drew]; omega) | (simp; omega) | (simp; done))))
  have K : Blk w3 w.heap.size 30 #[.int .i64 m, .slice A L c] := by
    refine Blk.below (Blk.below (Blk.below ?_ hb1 ?_) hb2 ?_) hb3 ?_
    · exact (Blk.new' _ rfl).drew
    · simp
    · omega
    · omega
  have hsz := K.lt
  have d0 := K.cellAt 0 _ rfl
  have d1 := K.cellAt 1 _ rfl
  clear hb1 hb2 hb3 z1 z2 ca cb ck cg
  have hB0 : Blk (w3.alloc (.cells ((cI (List.replicate m 0)).set a (.int .i64 1)).toArray 2)) w3.heap.size 2 (cI (waysW m es a 0)).toArray :=
    Blk.eq_ (Blk.new' _ rfl) (by simp [waysW, cI_set])
  have hcell : (cI (List.replicate m 0)).toArray[a]? = some (.int .i64 0) := by simp [cI, ha]
  go_wp2
  clear hcell
  go_loopw [11, 39] (fun v11 v39 wr => ∃ (j g : Nat), j ≤ k ∧ v39 = .int .i64 j ∧ v11 = .slice (some ⟨g, 0, none⟩) m m ∧ w.heap.size < g ∧ Blk wr g 2 (cI (waysW m es a j)).toArray ∧ Blk wr w.heap.size 30 #[.int .i64 m, .slice A L c] ∧ Below w.heap.size w wr) (fun _ i _ => k - (intOf i).toNat)
  case atStart => exact ⟨0, w3.heap.size, Nat.zero_le _, rfl, rfl, hsz, hB0, K.alloc _, by (repeat' (first | (with_reducible exact Below.refl _ _) | (with_reducible assumption) | (with_reducible refine Below.alloc ?_ ?_ _) | (with_reducible refine Below.drew ?_) | (with_reducible refine below_drewN ?_ _) | (with_reducible refine Below.setCell ?_ ?_ _) | (with_reducible refine Below.trans ?_ (Below.mono (by assumption) ?_)) | (first | omega | (simp only [World.size_alloc, World.size_setCell, World.size_drew]; omega) | (simp; omega) | (simp; done))))⟩
  case round =>
    obtain ⟨j, g, hj, rfl, rfl, hgw, hB, K', hbel⟩ := hrel
    clear hB0 K B d0 d1
    have hgs := hB.lt
    have hks := K'.lt
    have k0 := K'.cellAt 0 _ rfl
    have k1 := K'.cellAt 1 _ rfl
    obtain ⟨wo, rfl⟩ : ∃ wo : World, wo = wr := ⟨_, rfl⟩
    by_cases hlt : j < k
    · go_wp2
      have hN : Blk (wo.alloc (.cells (cI (List.replicate m 0)).toArray 2)) wo.heap.size 2 (cI (stepW m (waysW m es a j) (es.take 0))).toArray := by simp only [List.take_zero]; exact Blk.new _ _ _
      have hB1 := hB.alloc (.cells (cI (List.replicate m 0)).toArray 2)
      have K1 := K'.alloc (.cells (cI (List.replicate m 0)).toArray 2)
      have b1 : Below w.heap.size w (wo.alloc (.cells (cI (List.replicate m 0)).toArray 2)) := by (repeat' (first | (with_reducible exact Below.refl _ _) | (with_reducible assumption) | (with_reducible refine Below.alloc ?_ ?_ _) | (with_reducible refine Below.drew ?_) | (with_reducible refine below_drewN ?_ _) | (with_reducible refine Below.setCell ?_ ?_ _) | (with_reducible refine Below.trans ?_ (Below.mono (by assumption) ?_)) | (first | omega | (simp only [World.size_alloc, World.size_setCell, World.size_drew]; omega) | (simp; omega) | (simp; done))))
      clear hB K'
      generalize hnow : waysW m es a j = now at *
      have Hnow := Lib.hid hnow; clear hnow
      have hnl : Hid (now.length = m) := by show _ = _; rw [← Hnow.out, waysW_len]
      go_loopw [47] (fun v47 wi => ∃ i : Nat, i ≤ L ∧ v47 = .int .i64 i ∧ Blk wi wo.heap.size 2 (cI (stepW m now (es.take i))).toArray ∧ Blk wi g 2 (cI now).toArray ∧ Blk wi w.heap.size 30 #[.int .i64 m, .slice A L c] ∧ Below w.heap.size w wi) (fun i _ => L - (intOf i).toNat)
      case atStart => exact ⟨0, Nat.zero_le _, rfl, hN, hB1, K1, b1⟩
      case round =>
        obtain ⟨i, hi, rfl, hN', hB', K2, hbel'⟩ := hrel
        clear hN hB1 K1 b1
        have hns := hN'.lt
        by_cases hlt2 : i < L
        · obtain ⟨b', off, rfl, hb', hc⟩ := (hr.below hbel').pos (by have := HL.out; omega)
          have hc0 := (hc i (by have := HL.out; omega)).1
          have hc1 := (hc i (by have := HL.out; omega)).2
          clear hc hr
          obtain ⟨x, y, hxy, hx, hy⟩ := hin.out i (by have := HL.out; omega)
          have Hxy := Lib.hid hxy
          rw [hxy] at hc0 hc1
          dsimp only at hc0 hc1
          clear hxy
          have hlen := stepW_len m now (es.take i)
          generalize hst : stepW m now (es.take i) = st at *
          have Hst := Lib.hid hst; clear hst
          obtain ⟨u1, U1⟩ : ∃ u, Hid (st.getD x 0 = u) := ⟨_, rfl⟩
          obtain ⟨v1, V1⟩ : ∃ u, Hid (now.getD y 0 = u) := ⟨_, rfl⟩
          obtain ⟨u2, U2⟩ : ∃ u, Hid ((addW st x v1).getD y 0 = u) := ⟨_, rfl⟩
          obtain ⟨v2, V2⟩ : ∃ u, Hid (now.getD x 0 = u) := ⟨_, rfl⟩
          have P := Blk.new wr 46 #[.int .i64 (x : Int), .int .i64 (y : Int)]
          have hN1 := hN'.alloc (.cells #[.int .i64 (x : Int), .int .i64 (y : Int)] 46)
          have hB1 := hB'.alloc (.cells #[.int .i64 (x : Int), .int .i64 (y : Int)] 46)
          have K3 := K2.alloc (.cells #[.int .i64 (x : Int), .int .i64 (y : Int)] 46)
          have b3 : Below w.heap.size w (wr.alloc (.cells #[.int .i64 (x : Int), .int .i64 (y : Int)] 46)) := by (repeat' (first | (with_reducible exact Below.refl _ _) | (with_reducible assumption) | (with_reducible refine Below.alloc ?_ ?_ _) | (with_reducible refine Below.drew ?_) | (with_reducible refine below_drewN ?_ _) | (with_reducible refine Below.setCell ?_ ?_ _) | (with_reducible refine Below.trans ?_ (Below.mono (by assumption) ?_)) | (first | omega | (simp only [World.size_alloc, World.size_setCell, World.size_drew]; omega) | (simp; omega) | (simp; done))))
          clear hN' hB' K2
          have Hlen := Lib.hid hlen; clear hlen
          have HbS := Lib.hid (show w.heap.size < wo.heap.size ∧ wo.heap.size < wr.heap.size ∧ g < wo.heap.size from ⟨by omega, by omega, by omega⟩)
          go_wp2
          generalize wr.alloc (.cells #[.int .i64 (x : Int), .int .i64 (y : Int)] 46) = W1 at *
          have p0 := P.cellAt 0 _ rfl
          have p1 := P.cellAt 1 _ rfl
          have e1 := blkI_cell hN1 (j := x) (by have := Hlen.out; omega)
          have e2 := blkI_cell hB1 (j := y) (by have := hnl.out; omega)
          have f1 := hN1.frozen x
          rw [U1.out] at e1
          rw [V1.out] at e2
          have HN := Lib.hid hN1; clear hN1
          have HB := Lib.hid hB1; clear hB1
          have HP := Lib.hid P; clear P
          have HK := Lib.hid K3; clear K3
          go_still_tail 12, (by kernel_rfl)
          change wpList _ _ _ _ _ W1.drew
          go_wp2
          clear p0 p1 e1 e2 f1
          have hN2 := (addW_blk (v := v1) HN.out U1).drew
          have hB2 := (HB.out.far (p := ⟨wo.heap.size, x, none⟩) (by have := HbS.out; show g ≠ wo.heap.size; omega) (.int .i64 (wrap64 (u1 + v1)))).drew
          have P2 := (HP.out.far (p := ⟨wo.heap.size, x, none⟩) (by have := HbS.out; show wr.heap.size ≠ wo.heap.size; omega) (.int .i64 (wrap64 (u1 + v1)))).drew
          have K4 := (HK.out.far (p := ⟨wo.heap.size, x, none⟩) (by have := HbS.out; show w.heap.size ≠ wo.heap.size; omega) (.int .i64 (wrap64 (u1 + v1)))).drew
          have b4 : Below w.heap.size w (W1.setCell ⟨wo.heap.size, x, none⟩ (.int .i64 (wrap64 (u1 + v1)))).drew := (b3.setCell (p := ⟨wo.heap.size, x, none⟩) (by have := HbS.out; show w.heap.size ≤ wo.heap.size; omega) _).drew
          clear HN HB HP HK b3
          generalize (W1.setCell ⟨wo.heap.size, x, none⟩ (.int .i64 (wrap64 (u1 + v1)))).drew = W2 at *
          have p0 := P2.cellAt 0 _ rfl
          have p1 := P2.cellAt 1 _ rfl
          have e1 := blkI_cell hN2 (j := y) (by have := Hlen.out; rw [addW_len]; omega)
          have e2 := blkI_cell hB2 (j := x) (by have := hnl.out; omega)
          have f1 := hN2.frozen y
          rw [U2.out] at e1
          rw [V2.out] at e2
          have HN := Lib.hid hN2; clear hN2
          have HB := Lib.hid hB2; clear hB2
          have HK := Lib.hid K4; clear K4 P2
          go_still_tail 12, (by kernel_rfl)
          change wpList _ _ _ _ _ W2.drew
          go_wp2
          refine ⟨⟨i + 1, by omega, by go_num, ?_, ?_, ?_, ?_⟩, by simp [intOf]; omega⟩
          · refine Blk.eq_ ((addW_blk (v := v2) HN.out U2).drew) ?_
            have h1 := Hst.out
            rw [take_snocE es i (by have := HL.out; omega), Hxy.out, stepW_snoc, h1]
            simp only [Int.toNat_natCast, V1.out, V2.out]
          · exact (HB.out.far (p := ⟨wo.heap.size, y, none⟩) (by have := HbS.out; show g ≠ wo.heap.size; omega) _).drew
          · exact (HK.out.far (p := ⟨wo.heap.size, y, none⟩) (by have := HbS.out; show w.heap.size ≠ wo.heap.size; omega) _).drew
          · exact (b4.setCell (p := ⟨wo.heap.size, y, none⟩) (by have := HbS.out; show w.heap.size ≤ wo.heap.size; omega) _).drew
        · obtain rfl : i = L := by omega
          have hall : stepW m now (es.take i) = waysW m es a (j + 1) := by
            rw [List.take_of_length_le (by have := HL.out; omega), waysW, Hnow.out]
          rw [hall] at hN'
          clear hall
          have HN := Lib.hid hN'; clear hN'
          have HK := Lib.hid K2; clear K2 hB'
          go_wp2
          refine ⟨⟨j + 1, wo.heap.size, by omega, by go_num, rfl, by omega, HN.out, HK.out, hbel'⟩, by simp [intOf]; omega⟩
    · obtain rfl : j = k := by omega
      have e1 := blkI_cell hB (j := b) (by rw [waysW_len]; omega)
      clear hB K' k0 k1
      obtain ⟨r, Hr⟩ : ∃ r, Hid ((waysW m es a j).getD b 0 = r) := ⟨_, rfl⟩
      rw [Hr.out] at e1
      go_wp2
      go_ret2
      exact ⟨by rw [Hr.out]; rfl, hbel⟩
end Go.Proofs.Ytkgcenmnbeloeaa
