/- The walk of spec.CountWaysOf. -/
import Derived.Test.YtkgcenmnbeloeaaCw2
import Derived.StillTailTactics
namespace Go.Proofs.Ytkgcenmnbeloeaa
open Go.RowKit
set_option linter.unusedSimpArgs false
set_option linter.unusedVariables false

theorem rdI_two {w : World} {g : Nat} {t : TypeId} {a b : Int} (h : Blk w g t #[.int .i64 a, .int .i64 b]) : RdI w (some ⟨g, 0, none⟩) [a, b] :=
  .inr ⟨g, 0, rfl, h.lt, fun j hj => by
    match j, hj with
    | 0, _ => exact h.cellAt 0 _ rfl
    | 1, _ => exact h.cellAt 1 _ rfl⟩

set_option maxHeartbeats 4000000 in
theorem specWays_no (n : Int) (A : Option Addr) (c : Nat) (es : List (Int × Int)) (a b k : Int) (w : World) (hl : es.length ≤ 1048576) (hr : RdE w A es) (qg qv qk : Bool) (r : Int)
    (hg : Hid (isGraphB n es = qg)) (hv : Hid ([a, b].all (fun v => inB v 0 (n - 1)) = qv)) (hk : Hid (inB k 0 12 = qk)) (hr1 : Hid (gcode qg (qv && qk) = r)) (hr2 : r ≠ 0) :
    Calls Try.prog 7 #[.agg #[.int .i64 n, .slice A es.length c], .int .i64 a, .int .i64 b, .int .i64 k] w fun e w' => e = .returned (.tuple #[.int .i64 0, .int .i64 r]) ∧ Below w.heap.size w w' := by
  have c1 := fun W (hW : Below w.heap.size w W) (g : Nat) (hB : Blk W g 2 #[.int .i64 a, .int .i64 b]) => l01Vertices_b n A c es (some ⟨g, 0, none⟩) 2 [a, b] W qg qv hg hv hl (by simp) (hr.below hW) (rdI_two hB)
  have ck := fun W => l01In_b k 0 12 W qk hk
  simp only [List.length_cons, List.length_nil] at c1
  clear hr hg hv hk
  cases qg
  · have hr3 : Hid (1 = r) := by show _ = _; rw [← hr1.out]; rfl
    have c1 : ∀ W (hW : Below w.heap.size w W) (g : Nat) (hB : Blk W g 2 #[.int .i64 a, .int .i64 b]), Calls Try.prog 18 #[.agg #[.int .i64 n, .slice A es.length c], .slice (some ⟨g, 0, none⟩) 2 2] W fun e w' => e = .returned (.int .i64 1) ∧ Below W.heap.size W w' := c1
    clear hr1 hr2
    go_enter Try.func7, Try.ntmps7
    go_wp2_with fail
    refine (c1 _ (by (repeat' (first | (with_reducible exact Below.refl _ _) | (with_reducible assumption) | (with_reducible refine Below.alloc ?_ ?_ _) | (with_reducible refine Below.drew ?_) | (with_reducible refine below_drewN ?_ _) | (with_reducible refine Below.setCell ?_ ?_ _) | (with_reducible refine Below.trans ?_ (Below.mono (by assumption) ?_)) | (first | omega | (simp only [World.size_alloc, World.size_setCell, World.size_drew]; omega) | (simp; omega) | (simp; done))))) _ (Blk.new' _ (by simp))).mono ?_
    rintro e w1 ⟨rfl, hb1⟩
    go_wp2
    go_ret2
    exact ⟨by rw [← hr3.out]; rfl, by (repeat' (first | (with_reducible exact Below.refl _ _) | (with_reducible assumption) | (with_reducible refine Below.alloc ?_ ?_ _) | (with_reducible refine Below.drew ?_) | (with_reducible refine below_drewN ?_ _) | (with_reducible refine Below.setCell ?_ ?_ _) | (with_reducible refine Below.trans ?_ (Below.mono (by assumption) ?_)) | (first | omega | (simp only [World.size_alloc, World.size_setCell, World.size_drew]; omega) | (simp; omega) | (simp; done))))⟩
  cases qv
  · have hr3 : Hid (2 = r) := by show _ = _; rw [← hr1.out]; rfl
    have c1 : ∀ W (hW : Below w.heap.size w W) (g : Nat) (hB : Blk W g 2 #[.int .i64 a, .int .i64 b]), Calls Try.prog 18 #[.agg #[.int .i64 n, .slice A es.length c], .slice (some ⟨g, 0, none⟩) 2 2] W fun e w' => e = .returned (.int .i64 2) ∧ Below W.heap.size W w' := c1
    clear hr1 hr2
    go_enter Try.func7, Try.ntmps7
    go_wp2_with fail
    refine (c1 _ (by (repeat' (first | (with_reducible exact Below.refl _ _) | (with_reducible assumption) | (with_reducible refine Below.alloc ?_ ?_ _) | (with_reducible refine Below.drew ?_) | (with_reducible refine below_drewN ?_ _) | (with_reducible refine Below.setCell ?_ ?_ _) | (with_reducible refine Below.trans ?_ (Below.mono (by assumption) ?_)) | (first | omega | (simp only [World.size_alloc, World.size_setCell, World.size_drew]; omega) | (simp; omega) | (simp; done))))) _ (Blk.new' _ (by simp))).mono ?_
    rintro e w1 ⟨rfl, hb1⟩
    go_wp2
    go_ret2
    exact ⟨by rw [← hr3.out]; rfl, by (repeat' (first | (with_reducible exact Below.refl _ _) | (with_reducible assumption) | (with_reducible refine Below.alloc ?_ ?_ _) | (with_reducible refine Below.drew ?_) | (with_reducible refine below_drewN ?_ _) | (with_reducible refine Below.setCell ?_ ?_ _) | (with_reducible refine Below.trans ?_ (Below.mono (by assumption) ?_)) | (first | omega | (simp only [World.size_alloc, World.size_setCell, World.size_drew]; omega) | (simp; omega) | (simp; done))))⟩
  cases qk
  · have hr3 : Hid (2 = r) := by show _ = _; rw [← hr1.out]; rfl
    have c1 : ∀ W (hW : Below w.heap.size w W) (g : Nat) (hB : Blk W g 2 #[.int .i64 a, .int .i64 b]), Calls Try.prog 18 #[.agg #[.int .i64 n, .slice A es.length c], .slice (some ⟨g, 0, none⟩) 2 2] W fun e w' => e = .returned (.int .i64 0) ∧ Below W.heap.size W w' := c1
    clear hr1 hr2
    go_enter Try.func7, Try.ntmps7
    go_wp2_with fail
    refine (c1 _ (by (repeat' (first | (with_reducible exact Below.refl _ _) | (with_reducible assumption) | (with_reducible refine Below.alloc ?_ ?_ _) | (with_reducible refine Below.drew ?_) | (with_reducible refine below_drewN ?_ _) | (with_reducible refine Below.setCell ?_ ?_ _) | (with_reducible refine Below.trans ?_ (Below.mono (by assumption) ?_)) | (first | omega | (simp only [World.size_alloc, World.size_setCell, World.size_drew]; omega) | (simp; omega) | (simp; done))))) _ (Blk.new' _ (by simp))).mono ?_
    rintro e w1 ⟨rfl, hb1⟩
    go_wp2_with fail
    refine (ck _).mono ?_
    rintro e w2 ⟨rfl, rfl⟩
    go_wp2
    go_ret2
    exact ⟨by rw [← hr3.out]; rfl, by (repeat' (first | (with_reducible exact Below.refl _ _) | (with_reducible assumption) | (with_reducible refine Below.alloc ?_ ?_ _) | (with_reducible refine Below.drew ?_) | (with_reducible refine below_drewN ?_ _) | (with_reducible refine Below.setCell ?_ ?_ _) | (with_reducible refine Below.trans ?_ (Below.mono (by assumption) ?_)) | (first | omega | (simp only [World.size_alloc, World.size_setCell, World.size_drew]; omega) | (simp; omega) | (simp; done))))⟩
  · exact absurd hr1.out.symm (by simpa [gcode] using hr2)

set_option maxHeartbeats 4000000 in
theorem specWays_yes (m : Nat) (A : Option Addr) (c : Nat) (es : List (Int × Int)) (a b k : Nat) (w : World) (hl : es.length ≤ 1048576) (hr : RdE w A es)
    (hg : Hid (isGraphB m es = true)) (ha : a < m) (hb : b < m) (hk : k ≤ 12) :
    Calls Try.prog 7 #[.agg #[.int .i64 m, .slice A es.length c], .int .i64 a, .int .i64 b, .int .i64 k] w fun e w' => e = .returned (.tuple #[.int .i64 ((waysW m es a k).getD b 0), .int .i64 0]) ∧ Below w.heap.size w w' := by
  obtain ⟨hm1, hm2⟩ := isGraphB_n hg.out
  have hin := isGraphB_in hg.out
  rw [Int.toNat_natCast] at hin
  have hin := Lib.hid hin
  have hv : Hid ([(a : Int), (b : Int)].all (fun v => inB v 0 ((m : Int) - 1)) = true) := by
    show _ = _
    have h1 : inB (a : Int) 0 ((m : Int) - 1) = true := inB_true.2 ⟨by omega, by omega⟩
    have h2 : inB (b : Int) 0 ((m : Int) - 1) = true := inB_true.2 ⟨by omega, by omega⟩
    simp [h1, h2]
  have hk1 : Hid (inB (k : Int) 0 12 = true) := inB_true.2 ⟨by omega, by omega⟩
  have c1 : ∀ W (hW : Below w.heap.size w W) (g : Nat) (hB : Blk W g 2 #[.int .i64 a, .int .i64 b]), Calls Try.prog 18 #[.agg #[.int .i64 m, .slice A es.length c], .slice (some ⟨g, 0, none⟩) 2 2] W fun e w' => e = .returned (.int .i64 0) ∧ Below W.heap.size W w' :=
    fun W hW g hB => l01Vertices_b m A c es (some ⟨g, 0, none⟩) 2 [(a : Int), (b : Int)] W true true hg hv hl (by simp) (hr.below hW) (rdI_two hB)
  have ck := fun W => l01In_b k 0 12 W true hk1
  have hmk := mk_row Try.underlying37 infoI m (by omega) (by omega)
  simp only [made_int] at hmk
  clear hg hv hk1
  generalize hL : es.length = L at *
  have HL := Lib.hid hL; clear hL
  go_enter Try.func7, Try.ntmps7
  go_wp2_with fail
  refine (c1 _ (by (repeat' (first | (with_reducible exact Below.refl _ _) | (with_reducible assumption) | (with_reducible refine Below.alloc ?_ ?_ _) | (with_reducible refine Below.drew ?_) | (with_reducible refine below_drewN ?_ _) | (with_reducible refine Below.setCell ?_ ?_ _) | (with_reducible refine Below.trans ?_ (Below.mono (by assumption) ?_)) | (first | omega | (simp only [World.size_alloc, World.size_setCell, World.size_drew]; omega) | (simp; omega) | (simp; done))))) _ (Blk.new' _ (by simp))).mono ?_
  rintro e w3 ⟨rfl, hb1⟩
  simp only [World.size_alloc, World.size_setCell, World.size_drew] at hb1
  go_wp2_with fail
  refine (ck _).mono ?_
  rintro e w2 ⟨rfl, rfl⟩
  have B : Below w.heap.size w w3 := by (repeat' (first | (with_reducible exact Below.refl _ _) | (with_reducible assumption) | (with_reducible refine Below.alloc ?_ ?_ _) | (with_reducible refine Below.drew ?_) | (with_reducible refine below_drewN ?_ _) | (with_reducible refine Below.setCell ?_ ?_ _) | (with_reducible refine Below.trans ?_ (Below.mono (by assumption) ?_)) | (first | omega | (simp only [World.size_alloc, World.size_setCell, World.size_drew]; omega) | (simp; omega) | (simp; done))))
  have K : Blk w3 w.heap.size 30 #[.int .i64 m, .slice A L c] := ((Blk.new' _ rfl).alloc _).below hb1 (by omega)
  have hsz := K.lt
  have d0 := K.cellAt 0 _ rfl
  have d1 := K.cellAt 1 _ rfl
  clear hb1 c1 ck
  have hB0 : Blk (w3.alloc (.cells ((cI (List.replicate m 0)).set a (.int .i64 1)).toArray 2)) w3.heap.size 2 (cI (waysW m es a 0)).toArray :=
    Blk.eq_ (Blk.new' _ rfl) (by simp [waysW, cI_set])
  have hcell : (cI (List.replicate m 0)).toArray[a]? = some (.int .i64 0) := by simp [cI, ha]
  go_wp2
  clear hcell
  go_loopw [3, 11] (fun v3 v11 wr => ∃ (j r g : Nat), j + r = k ∧ v3 = .int .i64 r ∧ v11 = .slice (some ⟨g, 0, none⟩) m m ∧ w.heap.size < g ∧ Blk wr g 2 (cI (waysW m es a j)).toArray ∧ Blk wr w.heap.size 30 #[.int .i64 m, .slice A L c] ∧ Below w.heap.size w wr) (fun i _ _ => (intOf i).toNat)
  case atStart => exact ⟨0, k, w3.heap.size, by omega, rfl, rfl, hsz, hB0, K.alloc _, by (repeat' (first | (with_reducible exact Below.refl _ _) | (with_reducible assumption) | (with_reducible refine Below.alloc ?_ ?_ _) | (with_reducible refine Below.drew ?_) | (with_reducible refine below_drewN ?_ _) | (with_reducible refine Below.setCell ?_ ?_ _) | (with_reducible refine Below.trans ?_ (Below.mono (by assumption) ?_)) | (first | omega | (simp only [World.size_alloc, World.size_setCell, World.size_drew]; omega) | (simp; omega) | (simp; done))))⟩
  case round =>
    obtain ⟨j, r, g, hj, rfl, rfl, hgw, hB, K', hbel⟩ := hrel
    have Hj := Lib.hid hj; clear hj
    clear hB0 K B d0 d1
    have hgs := hB.lt
    have hks := K'.lt
    have k0 := K'.cellAt 0 _ rfl
    have k1 := K'.cellAt 1 _ rfl
    obtain ⟨wo, rfl⟩ : ∃ wo : World, wo = wr := ⟨_, rfl⟩
    have hr12 : r ≤ 12 := by have := Hj.out; omega
    by_cases hlt : 0 < r
    · go_wp2
      have hN : Blk (wo.alloc (.cells (cI (List.replicate m 0)).toArray 2)) wo.heap.size 2 (cI (stepW m (waysW m es a j) (es.take 0))).toArray := by simp only [List.take_zero]; exact Blk.new _ _ _
      have hB1 := hB.alloc (.cells (cI (List.replicate m 0)).toArray 2)
      have K1 := K'.alloc (.cells (cI (List.replicate m 0)).toArray 2)
      have b1 : Below w.heap.size w (wo.alloc (.cells (cI (List.replicate m 0)).toArray 2)) := by (repeat' (first | (with_reducible exact Below.refl _ _) | (with_reducible assumption) | (with_reducible refine Below.alloc ?_ ?_ _) | (with_reducible refine Below.drew ?_) | (with_reducible refine below_drewN ?_ _) | (with_reducible refine Below.setCell ?_ ?_ _) | (with_reducible refine Below.trans ?_ (Below.mono (by assumption) ?_)) | (first | omega | (simp only [World.size_alloc, World.size_setCell, World.size_drew]; omega) | (simp; omega) | (simp; done))))
      clear hB K'
      generalize hnow : waysW m es a j = now at *
      have Hnow := Lib.hid hnow; clear hnow
      have hnl : Hid (now.length = m) := by show _ = _; rw [← Hnow.out, waysW_len]
      go_loopw [13] (fun v47 wi => ∃ i : Nat, i ≤ L ∧ v47 = .int .i64 i ∧ Blk wi wo.heap.size 2 (cI (stepW m now (es.take i))).toArray ∧ Blk wi g 2 (cI now).toArray ∧ Blk wi w.heap.size 30 #[.int .i64 m, .slice A L c] ∧ Below w.heap.size w wi) (fun i _ => L - (intOf i).toNat)
      case atStart => exact ⟨0, Nat.zero_le _, rfl, hN, hB1, K1, b1⟩
      case round =>
        obtain ⟨i, hi, rfl, hN', hB', K2, hbel'⟩ := hrel
        clear hN hB1 K1 b1 k0 k1
        have hns := hN'.lt
        have q0 := K2.cellAt 0 _ rfl
        have q1 := K2.cellAt 1 _ rfl
        by_cases hlt2 : i < L
        · obtain ⟨b', off, rfl, hb', hc⟩ := (hr.below hbel').pos (by have := HL.out; omega)
          have hc0 := (hc i (by have := HL.out; omega)).1
          have hc1 := (hc i (by have := HL.out; omega)).2
          clear hc hr
          obtain ⟨x, y, hxy, hx, hy⟩ := hin.out i (by have := HL.out; omega)
          have Hxy := Lib.hid hxy
          rw [hxy] at hc0 hc1
          dsimp only at hc0 hc1
          clear hxy
          have hlen := stepW_len m now (es.take i)
          generalize hst : stepW m now (es.take i) = st at *
          have Hst := Lib.hid hst; clear hst
          obtain ⟨u1, U1⟩ : ∃ u, Hid (st.getD x 0 = u) := ⟨_, rfl⟩
          obtain ⟨v1, V1⟩ : ∃ u, Hid (now.getD y 0 = u) := ⟨_, rfl⟩
          obtain ⟨u2, U2⟩ : ∃ u, Hid ((addW st x v1).getD y 0 = u) := ⟨_, rfl⟩
          obtain ⟨v2, V2⟩ : ∃ u, Hid (now.getD x 0 = u) := ⟨_, rfl⟩
          have Hlen := Lib.hid hlen; clear hlen
          have HbS := Lib.hid (show w.heap.size < wo.heap.size ∧ g < wo.heap.size from ⟨by omega, by omega⟩)
          have HN0 := Lib.hid hN'; have HB0 := Lib.hid hB'; have HK0 := Lib.hid K2
          clear hN' hB' K2
          go_wp2
          go_quiet (fail)
          rename_i nq
          have hN1 := HN0.out.drewN nq
          have hB1 := HB0.out.drewN nq
          have K3 := HK0.out.drewN nq
          have b3 := below_drewN hbel' nq
          clear q0 q1 hc0 hc1
          go_wp2
          generalize wr.drewN nq = W1 at *
          have e1 := blkI_cell hN1 (j := x) (by have := Hlen.out; omega)
          have e2 := blkI_cell hB1 (j := y) (by have := hnl.out; omega)
          have f1 := hN1.frozen x
          rw [U1.out] at e1
          rw [V1.out] at e2
          have HN := Lib.hid hN1; clear hN1
          have HB := Lib.hid hB1; clear hB1
          have HK := Lib.hid K3; clear K3
          go_still_tail 12, (by kernel_rfl)
          change wpList _ _ _ _ _ W1.drew
          go_wp2
          clear e1 e2 f1
          have hN2 := (addW_blk (v := v1) HN.out U1).drew
          have hB2 := (HB.out.far (p := ⟨wo.heap.size, x, none⟩) (by have := HbS.out; show g ≠ wo.heap.size; omega) (.int .i64 (wrap64 (u1 + v1)))).drew
          have K4 := (HK.out.far (p := ⟨wo.heap.size, x, none⟩) (by have := HbS.out; show w.heap.size ≠ wo.heap.size; omega) (.int .i64 (wrap64 (u1 + v1)))).drew
          have b4 : Below w.heap.size w (W1.setCell ⟨wo.heap.size, x, none⟩ (.int .i64 (wrap64 (u1 + v1)))).drew := (b3.setCell (p := ⟨wo.heap.size, x, none⟩) (by have := HbS.out; show w.heap.size ≤ wo.heap.size; omega) _).drew
          clear HN HB HK b3
          generalize (W1.setCell ⟨wo.heap.size, x, none⟩ (.int .i64 (wrap64 (u1 + v1)))).drew = W2 at *
          have e1 := blkI_cell hN2 (j := y) (by have := Hlen.out; rw [addW_len]; omega)
          have e2 := blkI_cell hB2 (j := x) (by have := hnl.out; omega)
          have f1 := hN2.frozen y
          rw [U2.out] at e1
          rw [V2.out] at e2
          have HN := Lib.hid hN2; clear hN2
          have HB := Lib.hid hB2; clear hB2
          have HK := Lib.hid K4; clear K4
          go_still_tail 12, (by kernel_rfl)
          change wpList _ _ _ _ _ W2.drew
          go_wp2
          refine ⟨⟨i + 1, by omega, by go_num, ?_, ?_, ?_, ?_⟩, by simp [intOf]; omega⟩
          · refine Blk.eq_ ((addW_blk (v := v2) HN.out U2).drew) ?_
            have h1 := Hst.out
            rw [take_snocE es i (by have := HL.out; omega), Hxy.out, stepW_snoc, h1]
            simp only [Int.toNat_natCast, V1.out, V2.out]
          · exact (HB.out.far (p := ⟨wo.heap.size, y, none⟩) (by have := HbS.out; show g ≠ wo.heap.size; omega) _).drew
          · exact (HK.out.far (p := ⟨wo.heap.size, y, none⟩) (by have := HbS.out; show w.heap.size ≠ wo.heap.size; omega) _).drew
          · exact (b4.setCell (p := ⟨wo.heap.size, y, none⟩) (by have := HbS.out; show w.heap.size ≤ wo.heap.size; omega) _).drew
        · obtain rfl : i = L := by omega
          have hall : stepW m now (es.take i) = waysW m es a (j + 1) := by
            rw [List.take_of_length_le (by have := HL.out; omega), waysW, Hnow.out]
          rw [hall] at hN'
          clear hall
          have HN := Lib.hid hN'; clear hN'
          have HK := Lib.hid K2; clear K2 hB'
          go_wp2
          refine ⟨⟨j + 1, r - 1, wo.heap.size, by have := Hj.out; omega, by go_num, rfl, by omega, HN.out, HK.out, hbel'⟩, by simp [intOf]; omega⟩
    · obtain rfl : r = 0 := by omega
      have hjk : j = k := by have := Hj.out; omega
      have e1 := blkI_cell hB (j := b) (by rw [waysW_len]; omega)
      clear hB K' k0 k1
      obtain ⟨r, Hr⟩ : ∃ r, Hid ((waysW m es a j).getD b 0 = r) := ⟨_, rfl⟩
      rw [Hr.out] at e1
      have Hjk := Lib.hid hjk; clear hjk
      go_wp2
      go_ret2
      exact ⟨by rw [← Hjk.out, Hr.out]; rfl, hbel⟩
end Go.Proofs.Ytkgcenmnbeloeaa
