/- renumbered, leads; impl.LeadsTo. No statement of the program is proved here. -/
import Derived.Test.YtblidpodbpoaeaaLe2
import Derived.StillTailTactics
namespace Go.Proofs.Ytblidpodbpoaeaa
open Go.RowKit
set_option linter.unusedSimpArgs false
set_option linter.unusedVariables false
set_option maxRecDepth 20000

set_option maxHeartbeats 4000000 in
theorem renumbered_b (n : Int) (A : Option Addr) (c : Nat) (es : List (Int × Int)) (N : Nat) (B : Option Addr) (d : Nat) (p : List Int) (w : World) (hp0 : 0 < es.length) (hl : es.length ≤ 1000) (hin : InN N es) (hpl : p.length = N) (hr : RdE w A es) (hrp : RdI w B p) :
    Calls Try.prog 96 #[.agg #[.int .i64 n, .slice A es.length c], .slice B p.length d] w fun e w' => ∃ A' c', e = .returned (.agg #[.int .i64 n, .slice A' es.length c']) ∧ FrE w' w.heap.size A' (madeE (es.map (renE p))) ∧ Below w.heap.size w w' := by
  have Hre : Hid (∀ W, Below w.heap.size w W → RdE W A es) := fun W hW => hr.below hW
  have Hrp : Hid (∀ W, Below w.heap.size w W → RdI W B p) := fun W hW => hrp.below hW
  have Hin := Lib.hid hin
  obtain ⟨m, Hm⟩ : ∃ m, Hid (es.length = m) := ⟨_, rfl⟩
  obtain ⟨M, HM⟩ : ∃ M, Hid (p.length = M) := ⟨_, rfl⟩
  have HMN : Hid (M = N) := by show _ = _; rw [← HM.out]; exact hpl
  rw [Hm.out] at hl hp0 ⊢
  rw [HM.out]
  have Hml : Hid (0 < m ∧ m ≤ 1000) := ⟨hp0, hl⟩
  have Hml2 : Hid ((es.map (renE p)).length = m) := by show _ = _; rw [List.length_map, Hm.out]
  clear hr hrp hin hpl hp0 hl
  go_enter Try.func96, Try.ntmps96
  go_wp2
  go_loopw [5, 11] (fun s i wr => ∃ k : Nat, k ≤ m ∧ i = .int .i64 k ∧ Hid (wr.ownsRow (w.heap.size + 2) 54 2 s k (cE ((es.take k).map (renE p)))) ∧ Hid (Blk wr w.heap.size 24 #[.int .i64 n, .slice A m c]) ∧ Hid (Blk wr (w.heap.size + 1) 24 #[.int .i64 0, .slice none 0 0]) ∧ Hid (Below w.heap.size w wr)) (fun _ i _ => m - (intOf i).toNat)
  case atStart => exact ⟨0, Nat.zero_le _, rfl, own_nilE _ _ _, (Blk.new w _ _).alloc _, Blk.new' _ (by simp), by show Below _ _ _; (repeat' (first | (with_reducible exact Below.refl _ _) | (with_reducible assumption) | (with_reducible refine Below.alloc ?_ ?_ _) | (with_reducible refine Below.drew ?_) | (with_reducible refine below_drewN ?_ _) | (with_reducible refine Below.setCell ?_ ?_ _) | (with_reducible refine Below.trans ?_ (Below.mono (by assumption) ?_)) | (first | omega | (simp only [World.size_alloc, World.size_setCell, World.size_drew]; omega) | (simp; omega) | (simp; done))))⟩
  case round =>
    obtain ⟨k, hk, rfl, Hown, HK, HZ, Hbel⟩ := hrel
    obtain ⟨A1, c1, rfl⟩ := own_form Hown.out
    have hsz := HZ.out.lt
    by_cases hlt : k < m
    · obtain ⟨b, off, rfl, hb, hc⟩ := (Hre.out wr Hbel.out).pos (by rw [Hm.out]; omega)
      obtain ⟨hc0, hc1⟩ := hc k (by rw [Hm.out]; exact hlt)
      obtain ⟨x, y, Hxy, hx, hy⟩ := Hin.out k (by rw [Hm.out]; exact hlt)
      rw [Hxy] at hc0 hc1
      dsimp only at hc0 hc1
      have hx2 : x < M := by rw [HMN.out]; exact hx
      have hy2 : y < M := by rw [HMN.out]; exact hy
      obtain ⟨b2, off2, rfl, hb2, hc2⟩ := (Hrp.out wr Hbel.out).pos (by rw [HM.out]; omega)
      have hb2w : b2 < w.heap.size := by
        obtain ⟨b9, o9, e9, hb9, _⟩ := (Hrp.out w (Below.refl _ _)).pos (by rw [HM.out]; omega)
        injection e9 with e9
        injection e9 with e9 _ _
        omega
      have hpx := hc2 x (by rw [HM.out]; exact hx2)
      have hpy := hc2 y (by rw [HM.out]; exact hy2)
      obtain ⟨px, Hpx⟩ : ∃ px, Hid (p.getD x 0 = px) := ⟨_, rfl⟩
      obtain ⟨py, Hpy⟩ : ∃ py, Hid (p.getD y 0 = py) := ⟨_, rfl⟩
      have Hs : Hid ((es.take (k + 1)).map (renE p) = (es.take k).map (renE p) ++ [(px, py)]) := by
        show _ = _
        rw [take_snocE es k (by rw [Hm.out]; exact hlt), List.map_append, Hxy]
        simp only [List.map_cons, List.map_nil, renE, Int.toNat_natCast]
        rw [Hpx.out, Hpy.out]
      rw [Hpx.out] at hpx
      rw [Hpy.out] at hpy
      clear hc hc2 Hxy hx hy
      obtain ⟨P, HP⟩ : ∃ P, Hid ((es.take k).map (renE p) = P) := ⟨_, rfl⟩
      rw [HP.out] at Hown Hs
      obtain ⟨ek, ek2, ek3⟩ := idxF k m hlt
      obtain ⟨ex, ex2, ex3⟩ := idxF x M hx2
      obtain ⟨ey, ey2, ey3⟩ := idxF y M hy2
      obtain ⟨u, hu⟩ : ∃ u, u = wr.alloc (.cells #[.int .i64 (x : Int), .int .i64 (y : Int)] 54) := ⟨_, rfl⟩
      have hbu : Below wr.heap.size wr u := by rw [hu]; exact Below.alloc (Below.refl _ _) (Nat.le_refl _) _
      have zu : u.heap.size = wr.heap.size + 1 := by rw [hu]; simp
      have u0 : u.cell? ⟨wr.heap.size, 0, none⟩ = some (.int .i64 (x : Int)) := by rw [hu]; exact (Blk.new wr 54 _).cellAt 0 _ rfl
      have u1 : u.cell? ⟨wr.heap.size, 1, none⟩ = some (.int .i64 (y : Int)) := by rw [hu]; exact (Blk.new wr 54 _).cellAt 1 _ rfl
      have hpx2 : u.cell? ⟨b2, off2 + x, none⟩ = some (.int .i64 px) := ((bcell hbu).1 _ _ hb2).trans hpx
      have hpy2 : u.cell? ⟨b2, off2 + y, none⟩ = some (.int .i64 py) := ((bcell hbu).1 _ _ hb2).trans hpy
      have hB3 : Below wr.heap.size wr (u.drew.alloc (.cells #[.int .i64 px, .int .i64 py] 54)) := (Below.drew hbu).alloc (by simp; omega) _
      have hown2 := own_below Hown.out hB3
      have hnew : RdE (u.drew.alloc (.cells #[.int .i64 px, .int .i64 py] 54)) (some ⟨u.heap.size, 0, none⟩) [(px, py)] := blkE_rd (t := 54) (es := [(px, py)]) (Blk.new' (n := u.heap.size) _ (by simp))
      have Hzu := Lib.hid zu
      go_wp2_with fail
      rw [← hu]
      have KB : Hid (Blk u wr.heap.size 54 #[.int .i64 (x : Int), .int .i64 (y : Int)]) := by rw [hu]; exact Blk.new wr _ _
      have KB2 : Hid (Blk (u.drew.alloc (.cells #[.int .i64 px, .int .i64 py] 54)) wr.heap.size 54 #[.int .i64 (x : Int), .int .i64 (y : Int)]) := KB.out.drew.alloc _
      clear hc0 hc1 zu hu
      refine wp_region_noPanic ?_
      refine wp_region_held_drew (S := (fun w' => w'.cell? ⟨wr.heap.size, 0, none⟩ = some (.int .i64 (x : Int)) ∧ w'.cell? ⟨wr.heap.size, 1, none⟩ = some (.int .i64 (y : Int)) ∧ w'.cell? ⟨b2, off2 + x, none⟩ = some (.int .i64 px) ∧ w'.cell? ⟨b2, off2 + y, none⟩ = some (.int .i64 py))) (by kernel_rfl) ?_ (fun hHeld => ?_)
      · (try dsimp only); (first | exact hS3 | exact hS2 | assumption | (first | go_keep | (obtain ⟨hq, _⟩ := bcell ‹Below _ _ _›; (repeat' apply And.intro) <;> (rw [hq _ _ (by first | assumption | omega | (simp; done) | (simp; omega) | (simp; assumption))] <;> (first | assumption | (simp [*]; done))))))
      refine wpAnyH_take_d (i := 0) (d := some 15) (v := ?v1) rfl rfl (by kernel_rfl) (by kernel_rfl) (by kernel_rfl) (fun _ _ _ h => h) (Or.inl ⟨by kernel_rfl, ?y1⟩) (by assumption) ?_
      case y1 => (intro w' hSw; (try dsimp only at hSw); go_simp; try with_reducible rfl)
      try simp only [Act.put, List.setIfInBounds_toArray, List.set_cons_zero, List.set_cons_succ]
      refine wpAnyH_take_d (i := 1) (d := some 16) (v := ?v2) rfl rfl (by kernel_rfl) (by kernel_rfl) (by kernel_rfl) (fun _ _ _ h => h) (Or.inl ⟨by kernel_rfl, ?y2⟩) (by assumption) ?_
      case y2 => (intro w' hSw; (try dsimp only at hSw); go_simp; try with_reducible rfl)
      try simp only [Act.put, List.setIfInBounds_toArray, List.set_cons_zero, List.set_cons_succ]
      refine wpAnyH_take_d (i := 2) (d := some 17) (v := ?v3) rfl rfl (by kernel_rfl) (by kernel_rfl) (by kernel_rfl) (fun _ _ _ h => h) (Or.inl ⟨by kernel_rfl, ?y3⟩) (by assumption) ?_
      case y3 => (intro w' hSw; (try dsimp only at hSw); go_simp; try with_reducible rfl)
      try simp only [Act.put, List.setIfInBounds_toArray, List.set_cons_zero, List.set_cons_succ]
      refine wpAnyH_take_d (i := 3) (d := some 18) (v := ?v4) rfl rfl (by kernel_rfl) (by kernel_rfl) (by kernel_rfl) (fun _ _ _ h => h) (Or.inl ⟨by kernel_rfl, ?y4⟩) (by assumption) ?_
      case y4 => (intro w' hSw; (try dsimp only at hSw); go_simp; try with_reducible rfl)
      try simp only [Act.put, List.setIfInBounds_toArray, List.set_cons_zero, List.set_cons_succ]
      refine wpAnyH_take_d (i := 4) (d := some 19) (v := ?v5) rfl rfl (by kernel_rfl) (by kernel_rfl) (by kernel_rfl) (fun _ _ _ h => h) (Or.inl ⟨by kernel_rfl, ?y5⟩) (by assumption) ?_
      case y5 => (intro w' hSw; (try dsimp only at hSw); go_simp; try with_reducible rfl)
      try simp only [Act.put, List.setIfInBounds_toArray, List.set_cons_zero, List.set_cons_succ]
      refine wpAnyH_take_d (i := 5) (d := some 20) (v := ?v6) rfl rfl (by kernel_rfl) (by kernel_rfl) (by kernel_rfl) (fun _ _ _ h => h) (Or.inl ⟨by kernel_rfl, ?y6⟩) (by assumption) ?_
      case y6 => (intro w' hSw; (try dsimp only at hSw); go_simp; try with_reducible rfl)
      try simp only [Act.put, List.setIfInBounds_toArray, List.set_cons_zero, List.set_cons_succ]
      refine wpAnyH_take_d (i := 6) (d := some 21) (v := ?v7) rfl rfl (by kernel_rfl) (by kernel_rfl) (by kernel_rfl) (fun _ _ _ h => h) (Or.inl ⟨by kernel_rfl, ?y7⟩) (by assumption) ?_
      case y7 => (intro w' hSw; (try dsimp only at hSw); go_simp; try with_reducible rfl)
      try simp only [Act.put, List.setIfInBounds_toArray, List.set_cons_zero, List.set_cons_succ]
      refine wpAnyH_take_d (i := 7) (d := some 22) (v := ?v8) rfl rfl (by kernel_rfl) (by kernel_rfl) (by kernel_rfl) (fun _ _ _ h => h) (Or.inl ⟨by kernel_rfl, ?y8⟩) (by assumption) ?_
      case y8 => (intro w' hSw; (try dsimp only at hSw); go_simp; try with_reducible rfl)
      try simp only [Act.put, List.setIfInBounds_toArray, List.set_cons_zero, List.set_cons_succ]
      refine wpAnyH_take_d (i := 8) (d := some 23) (v := ?v9) rfl rfl (by kernel_rfl) (by kernel_rfl) (by kernel_rfl) (fun _ _ _ h => h) (Or.inl ⟨by kernel_rfl, ?y9⟩) (by assumption) ?_
      case y9 => (intro w' hSw; (try dsimp only at hSw); go_simp; try with_reducible rfl)
      try simp only [Act.put, List.setIfInBounds_toArray, List.set_cons_zero, List.set_cons_succ]
      refine wpAnyH_take_d (i := 9) (d := some 24) (v := ?v10) rfl rfl (by kernel_rfl) (by kernel_rfl) (by kernel_rfl) (fun _ _ _ h => h) (Or.inl ⟨by kernel_rfl, ?y10⟩) (by assumption) ?_
      case y10 => (intro w' hSw; (try dsimp only at hSw); go_simp; try with_reducible rfl)
      try simp only [Act.put, List.setIfInBounds_toArray, List.set_cons_zero, List.set_cons_succ]
      refine wpAnyH_take_d (i := 10) (d := some 25) (v := ?v11) rfl rfl (by kernel_rfl) (by kernel_rfl) (by kernel_rfl) (fun _ _ _ h => h) (Or.inl ⟨by kernel_rfl, ?y11⟩) (by assumption) ?_
      case y11 => (intro w' hSw; (try dsimp only at hSw); go_simp; try with_reducible rfl)
      try simp only [Act.put, List.setIfInBounds_toArray, List.set_cons_zero, List.set_cons_succ]
      refine wpAnyH_take_d (i := 11) (d := some 26) (v := ?v12) rfl rfl (by kernel_rfl) (by kernel_rfl) (by kernel_rfl) (fun _ _ _ h => h) (Or.inl ⟨by kernel_rfl, ?y12⟩) (by assumption) ?_
      case y12 => (intro w' hSw; (try dsimp only at hSw); go_simp; try with_reducible rfl)
      try simp only [Act.put, List.setIfInBounds_toArray, List.set_cons_zero, List.set_cons_succ]
      have hS2 : (u.drew.alloc (.cells #[.int .i64 px, .int .i64 py] 54)).cell? ⟨wr.heap.size, 0, none⟩ = some (.int .i64 (x : Int)) ∧ (u.drew.alloc (.cells #[.int .i64 px, .int .i64 py] 54)).cell? ⟨wr.heap.size, 1, none⟩ = some (.int .i64 (y : Int)) ∧ (u.drew.alloc (.cells #[.int .i64 px, .int .i64 py] 54)).cell? ⟨b2, off2 + x, none⟩ = some (.int .i64 px) ∧ (u.drew.alloc (.cells #[.int .i64 px, .int .i64 py] 54)).cell? ⟨b2, off2 + y, none⟩ = some (.int .i64 py) := ⟨KB2.out.cellAt 0 _ rfl, KB2.out.cellAt 1 _ rfl, ((bcell hB3).1 _ _ hb2).trans hpx, ((bcell hB3).1 _ _ hb2).trans hpy⟩
      refine wpAnyH_ready (rs := [12]) (by kernel_rfl) (by simp) ?_
      refine AllReadyH.cons rfl (fun K hK => ?_) AllReadyH.nil
      go_simp
      refine hK.out _ _ ?s13 (fun hHeld13 => ?_)
      case s13 => ((try dsimp only); (first | exact hS3 | exact hS2 | assumption | (first | go_keep | (obtain ⟨hq, _⟩ := bcell ‹Below _ _ _›; (repeat' apply And.intro) <;> (rw [hq _ _ (by first | assumption | omega | (simp; done) | (simp; omega) | (simp; assumption))] <;> (first | assumption | (simp [*]; done)))))))
      clear hK K hHeld
      have hHeld := hHeld13; clear hHeld13
      try simp only [Act.put, List.setIfInBounds_toArray, List.set_cons_zero, List.set_cons_succ]
      refine wpAnyH_ready (rs := [13]) (by kernel_rfl) (by simp) ?_
      refine AllReadyH.cons rfl (fun K hK => ?_) AllReadyH.nil
      refine wp_appendE rfl (w.heap.size + 2) _ k P rfl hown2 u.heap.size 0 1 1 [(px, py)] rfl rfl hnew (by have := Hml.out; omega) (by omega) (by have := Hzu.out; simp; omega) ?_
      intro v' w3 hown3 hfr hgr
      have hb31 := hfr (w.heap.size + 2) wr (Nat.le_refl _) (hB3.mono (by omega))
      have KB3 := KB2.out.grown hgr Hown.out (Nat.le_refl _)
      have hS3 : w3.cell? ⟨wr.heap.size, 0, none⟩ = some (.int .i64 (x : Int)) ∧ w3.cell? ⟨wr.heap.size, 1, none⟩ = some (.int .i64 (y : Int)) ∧ w3.cell? ⟨b2, off2 + x, none⟩ = some (.int .i64 px) ∧ w3.cell? ⟨b2, off2 + y, none⟩ = some (.int .i64 py) := ⟨KB3.cellAt 0 _ rfl, KB3.cellAt 1 _ rfl, ((bcell hb31).1 _ _ (by omega)).trans hpx, ((bcell hb31).1 _ _ (by omega)).trans hpy⟩
      refine hK.out _ _ ?s14 (fun hHeld14 => ?_)
      case s14 => ((try dsimp only); (first | exact hS3 | exact hS2 | assumption | (first | go_keep | (obtain ⟨hq, _⟩ := bcell ‹Below _ _ _›; (repeat' apply And.intro) <;> (rw [hq _ _ (by first | assumption | omega | (simp; done) | (simp; omega) | (simp; assumption))] <;> (first | assumption | (simp [*]; done)))))))
      clear hK K hHeld
      have hHeld := hHeld14; clear hHeld14
      try simp only [Act.put, List.setIfInBounds_toArray, List.set_cons_zero, List.set_cons_succ]
      refine wpAnyH_take_d (i := 14) (d := some 5) (v := ?v15) rfl rfl (by kernel_rfl) (by kernel_rfl) (by kernel_rfl) (fun _ _ _ h => h) (Or.inl ⟨by kernel_rfl, ?y15⟩) (by assumption) ?_
      case y15 => (intro w' hSw; (try dsimp only at hSw); go_simp; try with_reducible rfl)
      try simp only [Act.put, List.setIfInBounds_toArray, List.set_cons_zero, List.set_cons_succ]
      refine wpAnyH_done (by kernel_rfl) ?_ _
      refine NoPanic.normal ?_
      clear hHeld hS3 KB3 KB2 KB hS2 hb31
      have hb3 := hfr (w.heap.size + 2) wr (Nat.le_refl _) (hB3.mono (by omega))
      have Hb3 : Hid (Below w.heap.size w w3) := Hbel.out.trans (hb3.mono (by omega))
      have HK3 := Lib.hid (HK.out.below hb3 (by omega))
      have HZ3 := Lib.hid (HZ.out.below hb3 (by omega))
      obtain ⟨g, c2, rfl, hg1, hg2⟩ := own_someI hown3 (by omega)
      have Hown3 : Hid (w3.ownsRow (w.heap.size + 2) 54 2 (.slice (some ⟨g, 0, none⟩) (k + 1) c2) (k + 1) (cE ((es.take (k + 1)).map (renE p)))) := by
        show World.ownsRow _ _ _ _ _ _ _
        rw [Hs.out]
        exact hown3
      have hk9 : k ≤ 1000 := by have := Hml.out; omega
      clear hown3 hfr hgr hown2 hnew hB3 hb3 Hown HK HZ Hbel hpx hpy hpx2 hpy2 u0 u1 hbu
      go_wp2
      exact ⟨⟨k + 1, by omega, by go_num, Hown3, HK3, HZ3, Hb3⟩, by simp [intOf]; omega⟩
    · obtain rfl : k = m := by omega
      have hfull : es.take k = es := List.take_of_length_le (by rw [Hm.out]; exact Nat.le_refl _)
      rw [hfull] at Hown
      have k0 := HK.out.cellAt 0 _ rfl
      have cg := Lib.hid (graphOf_b n A1 c1 (es.map (renE p)) wr (by rw [Hml2.out]; exact Hml.out.1) (by rw [Hml2.out]; have := Hml.out; omega) (own_rdE Hown.out))
      rw [Hml2.out] at cg
      go_wp2_with fail
      refine cg.out.mono ?_
      rintro e w4 ⟨A3, c3, rfl, hF, hb4⟩
      have hZ4 := HZ.out.below hb4 hsz
      have x0 := hZ4.cellAt 0 _ rfl
      have x1 : (w4.setCell ⟨w.heap.size + 1, 0, none⟩ (.int .i64 n)).cell? ⟨w.heap.size + 1, 1, none⟩ = some (.slice none 0 0) := (sc_other (by simp)).trans (hZ4.cellAt 1 _ rfl)
      have f0 := hZ4.frozen 0
      have f1 := hZ4.frozen 1
      have HZ4 := Lib.hid hZ4
      have HF := Lib.hid hF
      have Hb4 : Hid (Below w.heap.size w w4) := Hbel.out.trans (hb4.mono (by omega))
      clear hZ4 hF hb4 cg HZ HK Hown Hbel k0
      go_wp2
      refine ret_cell Try.results96 Try.underlying24 rfl (by kernel_rfl) rfl ((HZ4.out.set_ 0 (.int .i64 n)).set_ 1 (.slice A3 k c3)) rfl rfl ⟨A3, c3, rfl, FrE.mono (n0 := wr.heap.size) ?_ (by omega), (Hb4.out.setCell (by show w.heap.size ≤ w.heap.size + 1; omega) _).setCell (by show w.heap.size ≤ w.heap.size + 1; omega) _⟩
      exact HF.out.away (((Only.refl _ _).set 0 _).set 1 _ : Only (some ⟨w.heap.size + 1, 0, none⟩) w4 _) hsz

set_option maxHeartbeats 2000000 in
theorem leads_b (n : Int) (A : Option Addr) (c : Nat) (es : List (Int × Int)) (N : Nat) (m : Int) (B : Option Addr) (d : Nat) (hs : List (Int × Int)) (D : Option Addr) (e : Nat) (p : List Int) (w : World) (q : Bool) (hq : Hid (decide (madeE (es.map (renE p)) = hs) = q)) (hp0 : 0 < es.length) (hl : es.length ≤ 1000) (hl2 : hs.length ≤ 1000) (hin : InN N es) (hpl : p.length = N) (hr : RdE w A es) (hr2 : RdE w B hs) (hrp : RdI w D p) :
    Calls Try.prog 73 #[.agg #[.int .i64 n, .slice A es.length c], .agg #[.int .i64 m, .slice B hs.length d], .slice D p.length e] w fun x w' => x = .returned (.bool q) ∧ Below w.heap.size w w' := by
  have hfi : ∀ (a b : Value) (W : World), (Instr.field 24 (.agg #[a, b]) 1).run Try.prog W = .ok b W := fun _ _ _ => rfl
  have c1 := Lib.hid fun W (hW : Below w.heap.size w W) => renumbered_b n A c es N D e p W hp0 hl hin hpl (hr.below hW) (hrp.below hW)
  have c2 := fun W A' c' (hW : Below w.heap.size w W) (hA : RdE W A' (madeE (es.map (renE p)))) => equalE_b A' c' (madeE (es.map (renE p))) B d hs W q hq (by rw [madeE_len, List.length_map]; omega) (by omega) hA (hr2.below hW)
  simp only [madeE_len, List.length_map] at c2
  have C2 := Lib.hid c2
  clear c2 hq hin hpl hr hr2 hrp hp0 hl hl2
  generalize madeE (es.map (renE p)) = X at *
  generalize es.length = L at *
  generalize hs.length = M at *
  generalize p.length = K at *
  go_enter Try.func73, Try.ntmps73
  go_wp2
  refine wp_region_noPanic ?_
  refine wp_region_held_drew (S := (fun w' => w'.cell? ⟨w.heap.size, 0, none⟩ = some (.int .i64 n) ∧ w'.cell? ⟨w.heap.size, 1, none⟩ = some (.slice A L c) ∧ w'.cell? ⟨w.heap.size + 1, 1, none⟩ = some (.slice B M d))) (by kernel_rfl) ?_ (fun hHeld => ?_)
  · (try dsimp only); (first | go_keep | (obtain ⟨hq, _⟩ := bcell ‹Below _ _ _›; (repeat' apply And.intro) <;> (rw [hq _ _ (by first | assumption | omega | (simp; done) | (simp; omega) | (simp; assumption))] <;> (first | assumption | (simp [*]; done)))))
  refine wpAnyH_take_d (i := 0) (d := some 7) (v := ?v16) rfl rfl (by kernel_rfl) (by kernel_rfl) (by kernel_rfl) (fun _ _ _ h => h) (Or.inl ⟨by kernel_rfl, ?y16⟩) (by assumption) ?_
  case y16 => (intro w' hSw; (try dsimp only at hSw); go_simp; try with_reducible rfl)
  try simp only [Act.put, List.setIfInBounds_toArray, List.set_cons_zero, List.set_cons_succ]
  refine wpAnyH_take_d (i := 1) (d := some 8) (v := ?v17) rfl rfl (by kernel_rfl) (by kernel_rfl) (by kernel_rfl) (fun _ _ _ h => h) (Or.inl ⟨by kernel_rfl, ?y17⟩) (by assumption) ?_
  case y17 => (intro w' hSw; (try dsimp only at hSw); go_simp; try with_reducible rfl)
  try simp only [Act.put, List.setIfInBounds_toArray, List.set_cons_zero, List.set_cons_succ]
  refine wpAnyH_take_d (i := 4) (d := some 11) (v := ?v18) rfl rfl (by kernel_rfl) (by kernel_rfl) (by kernel_rfl) (fun _ _ _ h => h) (Or.inl ⟨by kernel_rfl, ?y18⟩) (by assumption) ?_
  case y18 => (intro w' hSw; (try dsimp only at hSw); go_simp; try with_reducible rfl)
  try simp only [Act.put, List.setIfInBounds_toArray, List.set_cons_zero, List.set_cons_succ]
  refine wpAnyH_take_d (i := 5) (d := some 12) (v := ?v19) rfl rfl (by kernel_rfl) (by kernel_rfl) (by kernel_rfl) (fun _ _ _ h => h) (Or.inl ⟨by kernel_rfl, ?y19⟩) (by assumption) ?_
  case y19 => (intro w' hSw; (try dsimp only at hSw); go_simp; try with_reducible rfl)
  try simp only [Act.put, List.setIfInBounds_toArray, List.set_cons_zero, List.set_cons_succ]
  refine wpAnyH_ready (rs := [2]) (by kernel_rfl) (by simp) ?_
  refine AllReadyH.cons rfl (fun K hK => ?_) AllReadyH.nil
  go_simp
  refine (c1.out _ (by (repeat' (first | (with_reducible exact Below.refl _ _) | (with_reducible assumption) | (with_reducible refine Below.alloc ?_ ?_ _) | (with_reducible refine Below.drew ?_) | (with_reducible refine below_drewN ?_ _) | (with_reducible refine Below.setCell ?_ ?_ _) | (with_reducible refine Below.trans ?_ (Below.mono (by assumption) ?_)) | (first | omega | (simp only [World.size_alloc, World.size_setCell, World.size_drew]; omega) | (simp; omega) | (simp; done)))))).mono ?_; rintro x w1 ⟨A1, c1', rfl, hF1, hb1⟩; have z1 := hb1.size; (try simp only [World.size_alloc, World.size_setCell, World.size_drew] at z1)
  refine hK.out _ _ ?s20 (fun hHeld20 => ?_)
  case s20 => ((try dsimp only); (first | go_keep | (obtain ⟨hq, _⟩ := bcell ‹Below _ _ _›; (repeat' apply And.intro) <;> (rw [hq _ _ (by first | assumption | omega | (simp; done) | (simp; omega) | (simp; assumption))] <;> (first | assumption | (simp [*]; done))))))
  clear hK K hHeld
  have hHeld := hHeld20; clear hHeld20
  try simp only [Act.put, List.setIfInBounds_toArray, List.set_cons_zero, List.set_cons_succ]
  refine wpAnyH_take_d (i := 3) (d := some 10) (v := ?v21) rfl rfl (by kernel_rfl) (by kernel_rfl) (by kernel_rfl) (fun _ _ _ h => h) (Or.inl ⟨by kernel_rfl, ?y21⟩) (by assumption) ?_
  case y21 => (intro w' hSw; (try dsimp only at hSw); go_simp; try with_reducible rfl)
  try simp only [Act.put, List.setIfInBounds_toArray, List.set_cons_zero, List.set_cons_succ]
  refine wpAnyH_ready (rs := [6]) (by kernel_rfl) (by simp) ?_
  refine AllReadyH.cons rfl (fun K hK => ?_) AllReadyH.nil
  go_simp
  refine (C2.out _ _ _ (by (repeat' (first | (with_reducible exact Below.refl _ _) | (with_reducible assumption) | (with_reducible refine Below.alloc ?_ ?_ _) | (with_reducible refine Below.drew ?_) | (with_reducible refine below_drewN ?_ _) | (with_reducible refine Below.setCell ?_ ?_ _) | (with_reducible refine Below.trans ?_ (Below.mono (by assumption) ?_)) | (first | omega | (simp only [World.size_alloc, World.size_setCell, World.size_drew]; omega) | (simp; omega) | (simp; done))))) hF1.rd).mono ?_; rintro x w2 ⟨rfl, hb2⟩
  refine hK.out _ _ ?s22 (fun hHeld22 => ?_)
  case s22 => ((try dsimp only); (first | go_keep | (obtain ⟨hq, _⟩ := bcell ‹Below _ _ _›; (repeat' apply And.intro) <;> (rw [hq _ _ (by first | assumption | omega | (simp; done) | (simp; omega) | (simp; assumption))] <;> (first | assumption | (simp [*]; done))))))
  clear hK K hHeld
  have hHeld := hHeld22; clear hHeld22
  try simp only [Act.put, List.setIfInBounds_toArray, List.set_cons_zero, List.set_cons_succ]
  refine wpAnyH_take_d (i := 7) (d := some 6) (v := ?v23) rfl rfl (by kernel_rfl) (by kernel_rfl) (by kernel_rfl) (fun _ _ _ h => h) (Or.inl ⟨by kernel_rfl, ?y23⟩) (by assumption) ?_
  case y23 => (intro w' hSw; (try dsimp only at hSw); go_simp; try with_reducible rfl)
  try simp only [Act.put, List.setIfInBounds_toArray, List.set_cons_zero, List.set_cons_succ]
  refine wpAnyH_done (by kernel_rfl) ?_ _
  refine NoPanic.normal ?_
  go_wp2
  go_ret
  exact ⟨rfl, by (repeat' (first | (with_reducible exact Below.refl _ _) | (with_reducible assumption) | (with_reducible refine Below.alloc ?_ ?_ _) | (with_reducible refine Below.drew ?_) | (with_reducible refine below_drewN ?_ _) | (with_reducible refine Below.setCell ?_ ?_ _) | (with_reducible refine Below.trans ?_ (Below.mono (by assumption) ?_)) | (first | omega | (simp only [World.size_alloc, World.size_setCell, World.size_drew]; omega) | (simp; omega) | (simp; done))))⟩

theorem ent_leads1 : Ent 71 := enters_of Try.func71 (by kernel_rfl) rfl
set_option maxHeartbeats 2000000 in
theorem leads1_b (gg gh gl : Nat) (n : Int) (v : Value) (m : Int) (v2 : Value) (D : Option Addr) (e : Nat) (p : List Int) (w : World) (hn : 1 ≤ n ∧ n ≤ 20) (hpl : p.length ≤ 1048576) (hrp : RdI w D p)
    (hg : Blk w gg 24 #[.int .i64 n, v]) (hh : Blk w gh 24 #[.int .i64 m, v2]) (hll : Blk w gl 43 #[.slice D p.length e]) :
    Calls Try.prog 71 #[.pointer (some ⟨gg, 0, none⟩), .pointer (some ⟨gh, 0, none⟩), .pointer (some ⟨gl, 0, none⟩)] w fun x w' => x = .returned (.bool (decide (n = m) && permB p n.toNat)) ∧ Below w.heap.size w w' := by
  obtain ⟨N, rfl⟩ : ∃ N : Nat, n = N := ⟨n.toNat, by omega⟩
  have k0 := hg.cellAt 0 _ rfl
  have k1 := hh.cellAt 0 _ rfl
  have k2 := hll.cellAt 0 _ rfl
  obtain ⟨q, Hq⟩ : ∃ q, Hid (permB p N = q) := ⟨_, rfl⟩
  have co := Lib.hid (isOrder_b D e p N w q Hq (by omega) hpl hrp)
  rw [Int.toNat_natCast, Hq.out]
  by_cases hnm : (N : Int) = m
  · have g0 : ((N : Int) == m) = true := by simpa using hnm
    have hd : decide ((N : Int) = m) = true := by simpa using hnm
    rw [hd]
    clear hnm hd hrp hg hh hll hpl
    generalize p.length = K at *
    go_enter Try.func71, Try.ntmps71
    go_wp2_with fail
    refine co.out.mono ?_
    rintro x w1 ⟨rfl, hb1⟩
    go_wp2
    go_ret
    exact ⟨by rw [Bool.true_and]; rfl, hb1⟩
  · have g0 : ((N : Int) == m) = false := by simpa using hnm
    have hd : decide ((N : Int) = m) = false := by simpa using hnm
    rw [hd]
    clear hnm hd hrp hg hh hll hpl
    generalize p.length = K at *
    go_enter Try.func71, Try.ntmps71
    go_wp2
    go_ret
    exact ⟨rfl, Below.refl _ _⟩

set_option maxHeartbeats 4000000 in
theorem implLeads_b (n : Int) (A : Option Addr) (c : Nat) (es : List (Int × Int)) (m : Int) (B : Option Addr) (d : Nat) (hs : List (Int × Int)) (D : Option Addr) (e : Nat) (p : List Int) (w : World) (hl : es.length ≤ 1048576) (hl2 : hs.length ≤ 1048576) (hpl : p.length ≤ 1048576) (hr : RdE w A es) (hr2 : RdE w B hs) (hrp : RdI w D p)
    (r : Bool) (v : Int) (R1 : Hid ((leadV n es m hs p).1 = r)) (R2 : Hid ((leadV n es m hs p).2 = v)) :
    Calls Try.prog 27 #[.agg #[.int .i64 n, .slice A es.length c], .agg #[.int .i64 m, .slice B hs.length d], .slice D p.length e] w fun x w' => x = .returned (.tuple #[.bool r, .int .i64 v]) ∧ Below w.heap.size w w' := by
  have hmf : ∀ (fn : Fn) (first cap : Array Value) (w : World), (Instr.makeFunc fn first cap).run Try.prog w = .ok (.func fn first cap) w := fun _ _ _ _ => rfl
  obtain ⟨q1, h1⟩ : ∃ q, isGraphB n es = q := ⟨_, rfl⟩
  obtain ⟨q2, h2⟩ : ∃ q, isGraphB m hs = q := ⟨_, rfl⟩
  obtain ⟨q3, h3⟩ : ∃ q, (decide (n = m) && permB p n.toNat) = q := ⟨_, rfl⟩
  have hv : leadV n es m hs p = (if bcode q1 q2 q3 = 0 then (leadsB es hs p n.toNat, 0) else (false, bcode q1 q2 q3)) := by
    unfold leadV bcode
    rw [h1, h2]
    have h4 : (n = m ∧ permB p n.toNat = true) ↔ q3 = true := by rw [← h3, Bool.and_eq_true, decide_eq_true_eq]
    cases q1
    · simp
    · cases q2
      · simp
      · rw [if_pos (by simp)]
        by_cases h5 : n = m ∧ permB p n.toNat = true
        · rw [if_pos h5, h4.1 h5]; rfl
        · have h6 : q3 = false := by cases h7 : q3; rfl; exact absurd (h4.2 h7) h5
          rw [if_neg h5, h6]; rfl
  rw [hv] at R1 R2
  have cb := Lib.hid fun W lb (hW : Below w.heap.size w W) hp => bothCode_b n A c es m B d hs 71 lb W q1 q2 q3 ent_leads1 h1 h2 hl hl2 (hr.below hW) (hr2.below hW) hp
  have cf := Lib.hid fun (hg : q1 = true) (gg gh gl : Nat) (W : World) (hW : Below w.heap.size w W) k1 k2 k3 => leads1_b gg gh gl n (.slice A es.length c) m (.slice B hs.length d) D e p W (by have := isGraphB_n (h1.trans hg); omega) hpl (hrp.below hW) k1 k2 k3
  rw [h3] at cf
  by_cases hc : bcode q1 q2 q3 = 0
  · have hall : q1 = true ∧ q2 = true ∧ q3 = true := by unfold bcode at hc; cases q1 <;> cases q2 <;> cases q3 <;> simp_all
    obtain ⟨rfl, rfl, rfl⟩ := hall
    rw [if_pos hc] at R1 R2
    have hn := isGraphB_n h1
    have h30 := isGraphB_len h1
    have h31 := isGraphB_len h2
    rw [Bool.and_eq_true, decide_eq_true_eq] at h3
    have hlen : p.length = n.toNat := by have := h3.2; simp only [permB, Bool.and_eq_true, decide_eq_true_eq] at this; exact this.1.1
    have hrr : decide (madeE (es.map (renE p)) = hs) = r := by
      rw [← R1.out, Bool.eq_iff_iff, decide_eq_true_eq]
      exact leads_iff h1 (by rw [h3.1]; exact h2) (by omega) (permB_ren h3.2)
    have cl := Lib.hid fun W (hW : Below w.heap.size w W) => leads_b n A c es n.toNat m B d hs D e p W r hrr (isGraphB_ne h1).1 (by omega) (by omega) (isGraphB_in h1) hlen (hr.below hW) (hr2.below hW) (hrp.below hW)
    have Hv0 : Hid (0 = v) := R2.out
    have hc0 : bcode true true true = 0 := rfl
    rw [hc0] at cb
    clear hv h1 h2 h3 hc hc0 hr hr2 hrp R1 R2 hn h30 h31 hlen hrr hl hl2 hpl
    generalize es.length = L at *
    generalize hs.length = M at *
    generalize p.length = K at *
    go_enter Try.func27, Try.ntmps27
    go_wp2_with fail
    refine (cb.out (((w.alloc (.cells #[.int .i64 n, .slice A L c] 24)).alloc (.cells #[.int .i64 m, .slice B M d] 24)).alloc (.cells #[.slice D K e] 43)) _ (by (repeat' (first | (with_reducible exact Below.refl _ _) | (with_reducible assumption) | (with_reducible refine Below.alloc ?_ ?_ _) | (with_reducible refine Below.drew ?_) | (with_reducible refine below_drewN ?_ _) | (with_reducible refine Below.setCell ?_ ?_ _) | (with_reducible refine Below.trans ?_ (Below.mono (by assumption) ?_)) | (first | omega | (simp only [World.size_alloc, World.size_setCell, World.size_drew]; omega) | (simp; omega) | (simp; done))))) ?_).mono ?_
    · intro _ _ W hW
      exact cf.out (by first | rfl | trivial) w.heap.size (w.heap.size + 1) (w.heap.size + 1 + 1) W (Below.trans (b := (((w.alloc (.cells #[.int .i64 n, .slice A L c] 24)).alloc (.cells #[.int .i64 m, .slice B M d] 24)).alloc (.cells #[.slice D K e] 43))) (by (repeat' (first | (with_reducible exact Below.refl _ _) | (with_reducible assumption) | (with_reducible refine Below.alloc ?_ ?_ _) | (with_reducible refine Below.drew ?_) | (with_reducible refine below_drewN ?_ _) | (with_reducible refine Below.setCell ?_ ?_ _) | (with_reducible refine Below.trans ?_ (Below.mono (by assumption) ?_)) | (first | omega | (simp only [World.size_alloc, World.size_setCell, World.size_drew]; omega) | (simp; omega) | (simp; done))))) (hW.mono (by simp; omega))) ((((Blk.new w _ _).alloc _).alloc _).below hW (by simp; omega)) (((Blk.new' (n := w.heap.size + 1) _ (by simp)).alloc _).below hW (by simp)) ((Blk.new' (n := w.heap.size + 1 + 1) _ (by simp)).below hW (by simp))
    rintro x w1 ⟨rfl, hb1⟩
    have K0 := ((((Blk.new w _ _).alloc _).alloc _).below hb1 (by simp; omega) : Blk w1 w.heap.size 24 #[.int .i64 n, .slice A L c])
    have K1 := (((Blk.new' (n := w.heap.size + 1) _ (by simp)).alloc _).below hb1 (by simp) : Blk w1 (w.heap.size + 1) 24 #[.int .i64 m, .slice B M d])
    have K2 := ((Blk.new' (n := w.heap.size + 1 + 1) _ (by simp)).below hb1 (by simp) : Blk w1 (w.heap.size + 1 + 1) 43 #[.slice D K e])
    have k00 := K0.cellAt 0 _ rfl
    have k01 := K0.cellAt 1 _ rfl
    have k10 := K1.cellAt 0 _ rfl
    have k11 := K1.cellAt 1 _ rfl
    have k20 := K2.cellAt 0 _ rfl
    have Hb1 : Hid (Below w.heap.size w w1) := by show Below _ _ _; exact Below.trans (b := (((w.alloc (.cells #[.int .i64 n, .slice A L c] 24)).alloc (.cells #[.int .i64 m, .slice B M d] 24)).alloc (.cells #[.slice D K e] 43))) (by (repeat' (first | (with_reducible exact Below.refl _ _) | (with_reducible assumption) | (with_reducible refine Below.alloc ?_ ?_ _) | (with_reducible refine Below.drew ?_) | (with_reducible refine below_drewN ?_ _) | (with_reducible refine Below.setCell ?_ ?_ _) | (with_reducible refine Below.trans ?_ (Below.mono (by assumption) ?_)) | (first | omega | (simp only [World.size_alloc, World.size_setCell, World.size_drew]; omega) | (simp; omega) | (simp; done))))) (hb1.mono (by simp; omega))
    have s1 := Hb1.out.size
    clear K0 K1 K2 hb1
    go_wp2_with fail
    refine (cl.out w1 Hb1.out).mono ?_
    rintro x w2 ⟨rfl, hb2⟩
    go_wp2
    go_ret2
    exact ⟨by rw [← Hv0.out]; rfl, Hb1.out.trans (hb2.mono s1)⟩
  · rw [if_neg hc] at R1 R2
    have g1 : (bcode q1 q2 q3 != 0) = true := by simpa using hc
    have Hr0 : Hid (false = r) := R1.out
    have Hv0 : Hid (bcode q1 q2 q3 = v) := R2.out
    rw [Hv0.out] at g1 cb
    clear hv h1 h2 h3 hc hr hr2 hrp R1 R2 hl hl2 hpl
    generalize es.length = L at *
    generalize hs.length = M at *
    generalize p.length = K at *
    go_enter Try.func27, Try.ntmps27
    go_wp2_with fail
    refine (cb.out (((w.alloc (.cells #[.int .i64 n, .slice A L c] 24)).alloc (.cells #[.int .i64 m, .slice B M d] 24)).alloc (.cells #[.slice D K e] 43)) _ (by (repeat' (first | (with_reducible exact Below.refl _ _) | (with_reducible assumption) | (with_reducible refine Below.alloc ?_ ?_ _) | (with_reducible refine Below.drew ?_) | (with_reducible refine below_drewN ?_ _) | (with_reducible refine Below.setCell ?_ ?_ _) | (with_reducible refine Below.trans ?_ (Below.mono (by assumption) ?_)) | (first | omega | (simp only [World.size_alloc, World.size_setCell, World.size_drew]; omega) | (simp; omega) | (simp; done))))) ?_).mono ?_
    · intro hg _ W hW
      exact cf.out hg w.heap.size (w.heap.size + 1) (w.heap.size + 1 + 1) W (Below.trans (b := (((w.alloc (.cells #[.int .i64 n, .slice A L c] 24)).alloc (.cells #[.int .i64 m, .slice B M d] 24)).alloc (.cells #[.slice D K e] 43))) (by (repeat' (first | (with_reducible exact Below.refl _ _) | (with_reducible assumption) | (with_reducible refine Below.alloc ?_ ?_ _) | (with_reducible refine Below.drew ?_) | (with_reducible refine below_drewN ?_ _) | (with_reducible refine Below.setCell ?_ ?_ _) | (with_reducible refine Below.trans ?_ (Below.mono (by assumption) ?_)) | (first | omega | (simp only [World.size_alloc, World.size_setCell, World.size_drew]; omega) | (simp; omega) | (simp; done))))) (hW.mono (by simp; omega))) ((((Blk.new w _ _).alloc _).alloc _).below hW (by simp; omega)) (((Blk.new' (n := w.heap.size + 1) _ (by simp)).alloc _).below hW (by simp)) ((Blk.new' (n := w.heap.size + 1 + 1) _ (by simp)).below hW (by simp))
    rintro x w1 ⟨rfl, hb1⟩
    have Hb1 : Hid (Below w.heap.size w w1) := by show Below _ _ _; exact Below.trans (b := (((w.alloc (.cells #[.int .i64 n, .slice A L c] 24)).alloc (.cells #[.int .i64 m, .slice B M d] 24)).alloc (.cells #[.slice D K e] 43))) (by (repeat' (first | (with_reducible exact Below.refl _ _) | (with_reducible assumption) | (with_reducible refine Below.alloc ?_ ?_ _) | (with_reducible refine Below.drew ?_) | (with_reducible refine below_drewN ?_ _) | (with_reducible refine Below.setCell ?_ ?_ _) | (with_reducible refine Below.trans ?_ (Below.mono (by assumption) ?_)) | (first | omega | (simp only [World.size_alloc, World.size_setCell, World.size_drew]; omega) | (simp; omega) | (simp; done))))) (hb1.mono (by simp; omega))
    go_wp2
    go_ret2
    exact ⟨by rw [← Hr0.out]; rfl, Hb1.out⟩
end Go.Proofs.Ytblidpodbpoaeaa
