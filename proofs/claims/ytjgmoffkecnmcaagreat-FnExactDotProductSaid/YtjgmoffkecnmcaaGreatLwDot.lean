/- The walk of the law FnExactDotProduct. No statement of the program is proved here. -/
import Derived.Test.YtjgmoffkecnmcaaGreatDp7
import Derived.Test.YtjgmoffkecnmcaaGreatGl2
import Derived.Test.YtjgmoffkecnmcaaGreatMk3
import Derived.Test.YtjgmoffkecnmcaaGreatGlue
import Derived.Test.YtjgmoffkecnmcaaGreatCi1
import Derived.Deep.CutBlock
import Derived.Deep.DeepCutAuto
namespace Go.Proofs.YtjgmoffkecnmcaaGreat
open Go.RowKit
set_option linter.unusedSimpArgs false
set_option linter.unusedVariables false
set_option maxRecDepth 20000

set_option maxHeartbeats 8000000 in
theorem lawDot_any (n : Int) (A : Option Addr) (c : Nat) (es : List (Int × Int)) (e : Int) (f : Int) (m : Int) (B : Option Addr) (d : Nat) (hs : List (Int × Int)) (a : Int) (b : Int) (w : World) (hl : es.length ≤ 9223372036854775807) (hl2 : hs.length ≤ 9223372036854775807) (hr : RdE w A es) (hr2 : RdE w B hs) :
    Calls Tryz.prog 4 #[.agg #[.int .i64 n, .slice A es.length c], .int .i64 e, .int .i64 f, .agg #[.int .i64 m, .slice B hs.length d], .int .i64 a, .int .i64 b] w fun x w' => x = .returned (.bool true) ∧ Below w.heap.size w w' := by
  obtain ⟨k1, Hk1⟩ : ∃ k : Int, Hid ((if (es.length : Int) ≤ 1048576 then 1048576 - (es.length : Int) else -1) = k) := ⟨_, rfl⟩
  have cs := Lib.hid fun W => szGraph2_any n A es.length c 1048576 W (by omega) hl k1 Hk1
  by_cases h1 : es.length ≤ 1048576
  · have hk1 : ¬ k1 < 0 := by have := Hk1.out; rw [if_pos (by omega)] at this; omega
    have hk1' : k1 = 1048576 - (es.length : Int) := by have := Hk1.out; rw [if_pos (by omega)] at this; omega
    obtain ⟨k2, Hk2⟩ : ∃ k : Int, Hid ((if (hs.length : Int) ≤ k1 then k1 - (hs.length : Int) else -1) = k) := ⟨_, rfl⟩
    have cs2 := Lib.hid fun W => szGraph2_any m B hs.length d k1 W (by omega) hl2 k2 Hk2
    by_cases h2 : (hs.length : Int) ≤ k1
    · have hk2 : ¬ k2 < 0 := by have := Hk2.out; rw [if_pos h2] at this; omega
      have h3 : hs.length ≤ 1048576 := by omega
      obtain ⟨N, R0⟩ : ∃ r, Hid ((dotV n es e f m hs a b).1 = r) := ⟨_, rfl⟩
      obtain ⟨rs, R1⟩ : ∃ r, Hid ((dotV n es e f m hs a b).2.1 = r) := ⟨_, rfl⟩
      obtain ⟨v9, R2⟩ : ∃ r, Hid ((dotV n es e f m hs a b).2.2 = r) := ⟨_, rfl⟩
      obtain ⟨M0, HM0⟩ : ∃ M, Hid (rs.length = M) := ⟨_, rfl⟩
      have hM : M0 ≤ 1048576 := by rw [← HM0.out, ← R1.out]; exact lenDot n es e f m hs a b h1 h3
      have ct1 := Lib.hid fun W hW => toGraph_any n A c es W h1 (RdE.below (w' := W) hr hW)
      have ct2 := Lib.hid fun W hW => toGraph_any m B d hs W h3 (RdE.below (w' := W) hr2 hW)
      have cp := Lib.hid fun W (g1 g2 : Nat) (h4 : Blk W g1 40 (cE es).toArray) (h5 : Blk W g2 40 (cE hs).toArray) => specDot_b n (some ⟨g1, 0, none⟩) es.length es e f m (some ⟨g2, 0, none⟩) hs.length hs a b W h1 h3 (blkE_rd h4) (blkE_rd h5) N rs v9 R0 R1 R2
      have ci := Lib.hid fun W (g1 g2 : Nat) (h4 : Blk W g1 40 (cE es).toArray) (h5 : Blk W g2 40 (cE hs).toArray) => implDot_b n (some ⟨g1, 0, none⟩) es.length es e f m (some ⟨g2, 0, none⟩) hs.length hs a b W h1 h3 (blkE_rd h4) (blkE_rd h5) N rs v9 R0 R1 R2
      have ce1 := fun W g g' (hB : Blk W g 40 (cE es).toArray) (hB' : Blk W g' 40 (cE es).toArray) => eqGraph_any n n (some ⟨g, 0, none⟩) (some ⟨g', 0, none⟩) es.length es.length es es W h1 h1 (blkE_rd hB) (blkE_rd hB')
      have ce2 := fun W g g' (hB : Blk W g 40 (cE hs).toArray) (hB' : Blk W g' 40 (cE hs).toArray) => eqGraph_any m m (some ⟨g, 0, none⟩) (some ⟨g', 0, none⟩) hs.length hs.length hs hs W h3 h3 (blkE_rd hB) (blkE_rd hB')
      simp only [decide_true, Bool.and_self] at ce1 ce2
      have ce1 := Lib.hid ce1
      have ce2 := Lib.hid ce2
      have cq := fun W E E' cb cb' (h1 : RdE W E rs) (h2 : RdE W E' rs) => eqGraph_any N N E E' cb cb' rs rs W (by rw [HM0.out]; omega) (by rw [HM0.out]; omega) h1 h2
      simp only [decide_true, Bool.and_self, HM0.out] at cq
      have cm1 := fun W (g : Nat) (hg : g ≤ W.heap.size) (hB : FrE W g (some ⟨g, 0, none⟩) es) => markG_b n (some ⟨g, 0, none⟩) es.length es.length 1 g es W rfl (by omega) (by omega) hg hB
      have cm2 := fun W (g : Nat) (hg : g ≤ W.heap.size) (hB : FrE W g (some ⟨g, 0, none⟩) hs) => markG_b m (some ⟨g, 0, none⟩) hs.length hs.length (1 + 2 * es.length) g hs W rfl (by omega) (by omega) hg hB
      have ck := fun W E cb (n0 T : Nat) (hn : n0 ≤ W.heap.size) (hB : FrE W n0 E rs) (hT : UpE T E rs) => markG_up N E M0 cb 1 n0 T rs W HM0.out (by omega) (by omega) hn hB hT
      have ch := fun W E cb (hB : RdE W E (iotaE 1 M0)) => heldG_b N E M0 cb 1 W (by omega) (by omega) hB
      obtain ⟨j1, N1⟩ : ∃ k : Int, Hid (((1 + 2 * es.length : Nat) : Int) = k) := ⟨_, rfl⟩
      obtain ⟨j2, N2⟩ : ∃ k : Int, Hid (((1 + 2 * es.length + 2 * hs.length : Nat) : Int) = k) := ⟨_, rfl⟩
      obtain ⟨j3, N3⟩ : ∃ k : Int, Hid (((1 + 2 * M0 : Nat) : Int) = k) := ⟨_, rfl⟩
      have p1 : ¬ j2 < 0 := by have := N2.out; omega
      have p2 : ¬ j3 < 0 := by have := N3.out; omega
      have p3 : (j3 != j3) = false := by simp
      have p4 : (v9 != v9) = false := by simp
      have hnat : ((1 : Nat) : Int) = 1 := rfl
      simp only [N1.out, hnat] at cm1
      simp only [N2.out, N1.out] at cm2
      simp only [N3.out, hnat] at ck ch
      have cq := Lib.hid cq
      have cm1 := Lib.hid cm1
      have cm2 := Lib.hid cm2
      have ck := Lib.hid ck
      have ch := Lib.hid ch
      clear hr hr2 R0 R1 R2 Hk1 Hk2 hk1' h2 h3 h1 hl hl2
      generalize es.length = L at *
      generalize hs.length = M at *
      go_enter Tryz.func4, Tryz.ntmps4
      go_wp2_with fail
      refine (cs.out _).mono ?_
      rintro x w1 ⟨rfl, hb1⟩
      have KG1 := Lib.hid ((((Blk.new w _ _).alloc _).below hb1 (by simp; omega)) : Blk w1 w.heap.size 24 #[.int .i64 n, .slice A L c])
      have KH1 := Lib.hid (((Blk.new' (n := w.heap.size + 1) _ (by simp)).below hb1 (by simp)) : Blk w1 (w.heap.size + 1) 24 #[.int .i64 m, .slice B M d])
      have Hb1 : Hid (Below w.heap.size w w1) := by show Below _ _ _; exact Below.trans (b := ((w.alloc (.cells #[.int .i64 n, .slice A L c] 24)).alloc (.cells #[.int .i64 m, .slice B M d] 24))) (by (repeat' (first | (with_reducible exact Below.refl _ _) | (with_reducible assumption) | (with_reducible refine Below.alloc ?_ ?_ _) | (with_reducible refine Below.drew ?_) | (with_reducible refine below_drewN ?_ _) | (with_reducible refine Below.setCell ?_ ?_ _) | (with_reducible refine Below.trans ?_ (Below.mono (by assumption) ?_)) | (first | omega | (simp only [World.size_alloc, World.size_setCell, World.size_drew]; omega) | (simp; omega) | (simp; done))))) (hb1.mono (by simp; omega))
      have k10 := KH1.out.cellAt 0 _ rfl
      have k11 := KH1.out.cellAt 1 _ rfl
      clear hb1
      go_wp2_with fail
      refine (cs2.out _).mono ?_
      rintro x w2 ⟨rfl, hb2⟩
      have KG2 := Lib.hid (KG1.out.below hb2 KG1.out.lt)
      have KH2 := Lib.hid (KH1.out.below hb2 KH1.out.lt)
      have B2 := Hb1.out.trans (hb2.mono Hb1.out.size)
      have s2 := KH2.out.lt
      clear hb2 k10 k11 KG1 KH1 Hb1
      have k00 := KG2.out.cellAt 0 _ rfl
      have k01 := KG2.out.cellAt 1 _ rfl
      have k10 := KH2.out.cellAt 0 _ rfl
      have k11 := KH2.out.cellAt 1 _ rfl
      go_wp2
      go_cut [14, 15] (fun sg sv wx => ∃ g A3 c3, sg = .pointer (some ⟨g, 0, none⟩) ∧ sv = .int .i64 v9 ∧ Hid (Blk wx g 28 #[.int .i64 N, .slice A3 M0 c3]) ∧ Hid (RdE wx A3 rs) ∧ Hid (Below w2.heap.size w2 wx))
      case first =>
        have b0 : Below w2.heap.size w2 w2.drew := Below.drew (Below.refl _ _)
        refine wp_region_noPanic ?_
        refine wp_region_held_drew (S := (fun w' => w'.cell? ⟨w.heap.size, 0, none⟩ = some (.int .i64 n) ∧ w'.cell? ⟨w.heap.size, 1, none⟩ = some (.slice A L c) ∧ w'.cell? ⟨w.heap.size + 1, 0, none⟩ = some (.int .i64 m) ∧ w'.cell? ⟨w.heap.size + 1, 1, none⟩ = some (.slice B M d))) (by kernel_rfl) ?_ (fun hHeld => ?_)
        · (try dsimp only); (first | exact hS | exact ⟨k00, k01, k10, k11⟩ | assumption | (first | go_keep | (obtain ⟨hq, _⟩ := bcell ‹Below _ _ _›; (repeat' apply And.intro) <;> (rw [hq _ _ (by first | assumption | omega | (simp; done) | (simp; omega) | (simp; assumption))] <;> (first | assumption | (simp [*]; done))))))
        refine wpAnyH_take_d (i := 0) (d := some 36) (v := ?v1) rfl rfl (by kernel_rfl) (by kernel_rfl) (by kernel_rfl) (fun _ _ _ h => h) (Or.inl ⟨by kernel_rfl, ?y1⟩) (by assumption) ?_
        case y1 => (intro w' hSw; (try dsimp only at hSw); go_simp; try with_reducible rfl)
        try simp only [Act.put, List.setIfInBounds_toArray, List.set_cons_zero, List.set_cons_succ]
        refine wpAnyH_take_d (i := 2) (d := some 38) (v := ?v2) rfl rfl (by kernel_rfl) (by kernel_rfl) (by kernel_rfl) (fun _ _ _ h => h) (Or.inl ⟨by kernel_rfl, ?y2⟩) (by assumption) ?_
        case y2 => (intro w' hSw; (try dsimp only at hSw); go_simp; try with_reducible rfl)
        try simp only [Act.put, List.setIfInBounds_toArray, List.set_cons_zero, List.set_cons_succ]
        refine wpAnyH_take_d (i := 3) (d := some 39) (v := ?v3) rfl rfl (by kernel_rfl) (by kernel_rfl) (by kernel_rfl) (fun _ _ _ h => h) (Or.inl ⟨by kernel_rfl, ?y3⟩) (by assumption) ?_
        case y3 => (intro w' hSw; (try dsimp only at hSw); go_simp; try with_reducible rfl)
        try simp only [Act.put, List.setIfInBounds_toArray, List.set_cons_zero, List.set_cons_succ]
        refine wpAnyH_take_d (i := 4) (d := some 40) (v := ?v4) rfl rfl (by kernel_rfl) (by kernel_rfl) (by kernel_rfl) (fun _ _ _ h => h) (Or.inl ⟨by kernel_rfl, ?y4⟩) (by assumption) ?_
        case y4 => (intro w' hSw; (try dsimp only at hSw); go_simp; try with_reducible rfl)
        try simp only [Act.put, List.setIfInBounds_toArray, List.set_cons_zero, List.set_cons_succ]
        refine wpAnyH_take_d (i := 6) (d := some 42) (v := ?v5) rfl rfl (by kernel_rfl) (by kernel_rfl) (by kernel_rfl) (fun _ _ _ h => h) (Or.inl ⟨by kernel_rfl, ?y5⟩) (by assumption) ?_
        case y5 => (intro w' hSw; (try dsimp only at hSw); go_simp; try with_reducible rfl)
        try simp only [Act.put, List.setIfInBounds_toArray, List.set_cons_zero, List.set_cons_succ]
        refine wpAnyH_take_d (i := 7) (d := some 43) (v := ?v6) rfl rfl (by kernel_rfl) (by kernel_rfl) (by kernel_rfl) (fun _ _ _ h => h) (Or.inl ⟨by kernel_rfl, ?y6⟩) (by assumption) ?_
        case y6 => (intro w' hSw; (try dsimp only at hSw); go_simp; try with_reducible rfl)
        try simp only [Act.put, List.setIfInBounds_toArray, List.set_cons_zero, List.set_cons_succ]
        refine wpAnyH_ready (rs := [1, 12]) (by kernel_rfl) (by simp) ?_
        refine AllReadyH.cons rfl (fun K hK => ?_) (AllReadyH.cons rfl (fun K hK => ?_) (AllReadyH.nil))
        · go_simp
          refine (ct1.out _ (B2.trans (b0.mono B2.size))).mono ?_
          rintro xx v1 ⟨g1, rfl, hg1, hE1, hb1⟩
          have dd1 : Below w2.heap.size w2 v1 := b0.trans (hb1.mono b0.size)
          have hS : v1.cell? ⟨w.heap.size, 0, none⟩ = some (.int .i64 n) ∧ v1.cell? ⟨w.heap.size, 1, none⟩ = some (.slice A L c) ∧ v1.cell? ⟨w.heap.size + 1, 0, none⟩ = some (.int .i64 m) ∧ v1.cell? ⟨w.heap.size + 1, 1, none⟩ = some (.slice B M d) := ⟨((bcell dd1).1 _ _ (by omega)).trans k00, ((bcell dd1).1 _ _ (by omega)).trans k01, ((bcell dd1).1 _ _ s2).trans k10, ((bcell dd1).1 _ _ s2).trans k11⟩
          refine hK.out _ _ ?s7 (fun hHeld7 => ?_)
          case s7 => ((try dsimp only); (first | exact hS | exact ⟨k00, k01, k10, k11⟩ | assumption | (first | go_keep | (obtain ⟨hq, _⟩ := bcell ‹Below _ _ _›; (repeat' apply And.intro) <;> (rw [hq _ _ (by first | assumption | omega | (simp; done) | (simp; omega) | (simp; assumption))] <;> (first | assumption | (simp [*]; done)))))))
          clear hK K hHeld
          have hHeld := hHeld7; clear hHeld7
          try simp only [Act.put, List.setIfInBounds_toArray, List.set_cons_zero, List.set_cons_succ]
          refine wpAnyH_ready (rs := [5, 12]) (by kernel_rfl) (by simp) ?_
          refine AllReadyH.cons rfl (fun K hK => ?_) (AllReadyH.cons rfl (fun K hK => ?_) (AllReadyH.nil))
          · go_simp
            refine (ct2.out _ (B2.trans (dd1.mono B2.size))).mono ?_
            rintro xx v2 ⟨g2, rfl, hg2, hE2, hb2⟩
            have dd2 : Below w2.heap.size w2 v2 := dd1.trans (hb2.mono dd1.size)
            have e21 := hE1.below hb2 hE1.lt
            have hS : v2.cell? ⟨w.heap.size, 0, none⟩ = some (.int .i64 n) ∧ v2.cell? ⟨w.heap.size, 1, none⟩ = some (.slice A L c) ∧ v2.cell? ⟨w.heap.size + 1, 0, none⟩ = some (.int .i64 m) ∧ v2.cell? ⟨w.heap.size + 1, 1, none⟩ = some (.slice B M d) := ⟨((bcell dd2).1 _ _ (by omega)).trans k00, ((bcell dd2).1 _ _ (by omega)).trans k01, ((bcell dd2).1 _ _ s2).trans k10, ((bcell dd2).1 _ _ s2).trans k11⟩
            refine hK.out _ _ ?s8 (fun hHeld8 => ?_)
            case s8 => ((try dsimp only); (first | exact hS | exact ⟨k00, k01, k10, k11⟩ | assumption | (first | go_keep | (obtain ⟨hq, _⟩ := bcell ‹Below _ _ _›; (repeat' apply And.intro) <;> (rw [hq _ _ (by first | assumption | omega | (simp; done) | (simp; omega) | (simp; assumption))] <;> (first | assumption | (simp [*]; done)))))))
            clear hK K hHeld
            have hHeld := hHeld8; clear hHeld8
            try simp only [Act.put, List.setIfInBounds_toArray, List.set_cons_zero, List.set_cons_succ]
            refine wpAnyH_ready (rs := [8, 12]) (by kernel_rfl) (by simp) ?_
            refine AllReadyH.cons rfl (fun K hK => ?_) (AllReadyH.cons rfl (fun K hK => ?_) (AllReadyH.nil))
            · go_simp
              refine (cp.out v2 g1 g2 e21 hE2).mono ?_
              rintro xx v3 ⟨hq, hb3⟩
              obtain ⟨A3, c3, rfl, hF⟩ := hq.open_ HM0.out
              have dd3 : Below w2.heap.size w2 v3 := dd2.trans (hb3.mono dd2.size)
              have hS : v3.cell? ⟨w.heap.size, 0, none⟩ = some (.int .i64 n) ∧ v3.cell? ⟨w.heap.size, 1, none⟩ = some (.slice A L c) ∧ v3.cell? ⟨w.heap.size + 1, 0, none⟩ = some (.int .i64 m) ∧ v3.cell? ⟨w.heap.size + 1, 1, none⟩ = some (.slice B M d) := ⟨((bcell dd3).1 _ _ (by omega)).trans k00, ((bcell dd3).1 _ _ (by omega)).trans k01, ((bcell dd3).1 _ _ s2).trans k10, ((bcell dd3).1 _ _ s2).trans k11⟩
              refine hK.out _ _ ?s9 (fun hHeld9 => ?_)
              case s9 => ((try dsimp only); (first | exact hS | exact ⟨k00, k01, k10, k11⟩ | assumption | (first | go_keep | (obtain ⟨hq, _⟩ := bcell ‹Below _ _ _›; (repeat' apply And.intro) <;> (rw [hq _ _ (by first | assumption | omega | (simp; done) | (simp; omega) | (simp; assumption))] <;> (first | assumption | (simp [*]; done)))))))
              clear hK K hHeld
              have hHeld := hHeld9; clear hHeld9
              try simp only [Act.put, List.setIfInBounds_toArray, List.set_cons_zero, List.set_cons_succ]
              refine wpAnyH_take_d (i := 9) (d := some 35) (v := ?v10) rfl rfl (by kernel_rfl) (by kernel_rfl) (by kernel_rfl) (fun _ _ _ h => h) (Or.inl ⟨by kernel_rfl, ?y10⟩) (by assumption) ?_
              case y10 => (intro w' hSw; (try dsimp only at hSw); go_simp; try with_reducible rfl)
              try simp only [Act.put, List.setIfInBounds_toArray, List.set_cons_zero, List.set_cons_succ]
              refine wpAnyH_take_d (i := 10) (d := some 45) (v := ?v11) rfl rfl (by kernel_rfl) (by kernel_rfl) (by kernel_rfl) (fun _ _ _ h => h) (Or.inl ⟨by kernel_rfl, ?y11⟩) (by assumption) ?_
              case y11 => (intro w' hSw; (try dsimp only at hSw); go_simp; try with_reducible rfl)
              try simp only [Act.put, List.setIfInBounds_toArray, List.set_cons_zero, List.set_cons_succ]
              refine wpAnyH_take_d (i := 11) (d := some 46) (v := ?v12) rfl rfl (by kernel_rfl) (by kernel_rfl) (by kernel_rfl) (fun _ _ _ h => h) (Or.inl ⟨by kernel_rfl, ?y12⟩) (by assumption) ?_
              case y12 => (intro w' hSw; (try dsimp only at hSw); go_simp; try with_reducible rfl)
              try simp only [Act.put, List.setIfInBounds_toArray, List.set_cons_zero, List.set_cons_succ]
              refine wpAnyH_ready (rs := [12]) (by kernel_rfl) (by simp) ?_
              refine AllReadyH.cons rfl (fun K hK => ?_) AllReadyH.nil
              go_simp
              have dd4 : Below w2.heap.size w2 (v3.alloc (.cells #[.int .i64 0, .slice none 0 0] 28)) := dd3.alloc dd3.size _
              have hz4 : Blk (v3.alloc (.cells #[.int .i64 0, .slice none 0 0] 28)) v3.heap.size 28 #[.int .i64 0, .slice none 0 0] := Blk.new v3 _ _
              have e41 := e21.alloc (.cells #[.int .i64 0, .slice none 0 0] 28)
              have e42 := hE2.alloc (.cells #[.int .i64 0, .slice none 0 0] 28)
              have hS : (v3.alloc (.cells #[.int .i64 0, .slice none 0 0] 28)).cell? ⟨w.heap.size, 0, none⟩ = some (.int .i64 n) ∧ (v3.alloc (.cells #[.int .i64 0, .slice none 0 0] 28)).cell? ⟨w.heap.size, 1, none⟩ = some (.slice A L c) ∧ (v3.alloc (.cells #[.int .i64 0, .slice none 0 0] 28)).cell? ⟨w.heap.size + 1, 0, none⟩ = some (.int .i64 m) ∧ (v3.alloc (.cells #[.int .i64 0, .slice none 0 0] 28)).cell? ⟨w.heap.size + 1, 1, none⟩ = some (.slice B M d) := ⟨((bcell dd4).1 _ _ (by omega)).trans k00, ((bcell dd4).1 _ _ (by omega)).trans k01, ((bcell dd4).1 _ _ s2).trans k10, ((bcell dd4).1 _ _ s2).trans k11⟩
              refine hK.out _ _ ?s13 (fun hHeld13 => ?_)
              case s13 => ((try dsimp only); (first | exact hS | exact ⟨k00, k01, k10, k11⟩ | assumption | (first | go_keep | (obtain ⟨hq, _⟩ := bcell ‹Below _ _ _›; (repeat' apply And.intro) <;> (rw [hq _ _ (by first | assumption | omega | (simp; done) | (simp; omega) | (simp; assumption))] <;> (first | assumption | (simp [*]; done)))))))
              clear hK K hHeld
              have hHeld := hHeld13; clear hHeld13
              try simp only [Act.put, List.setIfInBounds_toArray, List.set_cons_zero, List.set_cons_succ]
              have x0 := hz4.cellAt 0 _ rfl; have x1 : ((v3.alloc (.cells #[.int .i64 0, .slice none 0 0] 28)).setCell ⟨v3.heap.size, 0, none⟩ (.int .i64 N)).cell? ⟨v3.heap.size, 1, none⟩ = some (.slice none 0 0) := (sc_other (by simp)).trans (hz4.cellAt 1 _ rfl); have f0 := hz4.frozen 0; have f1 := hz4.frozen 1
              refine wpAnyH_ready (rs := [13]) (by kernel_rfl) (by simp) ?_
              refine AllReadyH.cons rfl (fun K hK => ?_) AllReadyH.nil
              go_simp
              have hZ : Blk (v3.alloc (.cells #[.int .i64 N, .slice A3 M0 c3] 28)) v3.heap.size 28 #[.int .i64 N, .slice A3 M0 c3] := Blk.new v3 _ _
              have cU : Below w2.heap.size w2 (v3.alloc (.cells #[.int .i64 N, .slice A3 M0 c3] 28)) := dd3.alloc dd3.size _
              have hR : RdE (v3.alloc (.cells #[.int .i64 N, .slice A3 M0 c3] 28)) A3 rs := hF.rd.below (Below.alloc (Below.refl _ _) (Nat.le_refl _) _)
              clear hS
              have hS : (v3.alloc (.cells #[.int .i64 N, .slice A3 M0 c3] 28)).cell? ⟨w.heap.size, 0, none⟩ = some (.int .i64 n) ∧ (v3.alloc (.cells #[.int .i64 N, .slice A3 M0 c3] 28)).cell? ⟨w.heap.size, 1, none⟩ = some (.slice A L c) ∧ (v3.alloc (.cells #[.int .i64 N, .slice A3 M0 c3] 28)).cell? ⟨w.heap.size + 1, 0, none⟩ = some (.int .i64 m) ∧ (v3.alloc (.cells #[.int .i64 N, .slice A3 M0 c3] 28)).cell? ⟨w.heap.size + 1, 1, none⟩ = some (.slice B M d) := ⟨((bcell cU).1 _ _ (by omega)).trans k00, ((bcell cU).1 _ _ (by omega)).trans k01, ((bcell cU).1 _ _ s2).trans k10, ((bcell cU).1 _ _ s2).trans k11⟩
              refine hK.out _ _ ?s14 (fun hHeld14 => ?_)
              case s14 => ((try dsimp only); (first | exact hS | exact ⟨k00, k01, k10, k11⟩ | assumption | (first | go_keep | (obtain ⟨hq, _⟩ := bcell ‹Below _ _ _›; (repeat' apply And.intro) <;> (rw [hq _ _ (by first | assumption | omega | (simp; done) | (simp; omega) | (simp; assumption))] <;> (first | assumption | (simp [*]; done)))))))
              clear hK K hHeld
              have hHeld := hHeld14; clear hHeld14
              try simp only [Act.put, List.setIfInBounds_toArray, List.set_cons_zero, List.set_cons_succ]
              have HU : Hid _ := hZ
              refine wpAnyH_take_d (i := 14) (d := some 15) (v := ?v15) rfl rfl (by kernel_rfl) (by kernel_rfl) (by kernel_rfl) (fun _ _ _ h => h) (Or.inl ⟨by kernel_rfl, ?y15⟩) (by assumption) ?_
              case y15 => (intro w' hSw; (try dsimp only at hSw); go_simp; try with_reducible rfl)
              try simp only [Act.put, List.setIfInBounds_toArray, List.set_cons_zero, List.set_cons_succ]
              refine wpAnyH_done (by kernel_rfl) ?_ _
              refine NoPanic.normal ?_
              (try go_wp2_with fail)
              go_meet
              exact ⟨_, A3, c3, rfl, rfl, Lib.hid hZ, Lib.hid hR, Lib.hid cU⟩
            · go_simp
              have dd3 : Below w2.heap.size w2 (v2.alloc (.cells #[.int .i64 0, .slice none 0 0] 28)) := dd2.alloc dd2.size _
              have hz3 : Blk (v2.alloc (.cells #[.int .i64 0, .slice none 0 0] 28)) v2.heap.size 28 #[.int .i64 0, .slice none 0 0] := Blk.new v2 _ _
              have e31 := e21.alloc (.cells #[.int .i64 0, .slice none 0 0] 28)
              have e32 := hE2.alloc (.cells #[.int .i64 0, .slice none 0 0] 28)
              have hS : (v2.alloc (.cells #[.int .i64 0, .slice none 0 0] 28)).cell? ⟨w.heap.size, 0, none⟩ = some (.int .i64 n) ∧ (v2.alloc (.cells #[.int .i64 0, .slice none 0 0] 28)).cell? ⟨w.heap.size, 1, none⟩ = some (.slice A L c) ∧ (v2.alloc (.cells #[.int .i64 0, .slice none 0 0] 28)).cell? ⟨w.heap.size + 1, 0, none⟩ = some (.int .i64 m) ∧ (v2.alloc (.cells #[.int .i64 0, .slice none 0 0] 28)).cell? ⟨w.heap.size + 1, 1, none⟩ = some (.slice B M d) := ⟨((bcell dd3).1 _ _ (by omega)).trans k00, ((bcell dd3).1 _ _ (by omega)).trans k01, ((bcell dd3).1 _ _ s2).trans k10, ((bcell dd3).1 _ _ s2).trans k11⟩
              refine hK.out _ _ ?s16 (fun hHeld16 => ?_)
              case s16 => ((try dsimp only); (first | exact hS | exact ⟨k00, k01, k10, k11⟩ | assumption | (first | go_keep | (obtain ⟨hq, _⟩ := bcell ‹Below _ _ _›; (repeat' apply And.intro) <;> (rw [hq _ _ (by first | assumption | omega | (simp; done) | (simp; omega) | (simp; assumption))] <;> (first | assumption | (simp [*]; done)))))))
              clear hK K hHeld
              have hHeld := hHeld16; clear hHeld16
              try simp only [Act.put, List.setIfInBounds_toArray, List.set_cons_zero, List.set_cons_succ]
              refine wpAnyH_ready (rs := [8]) (by kernel_rfl) (by simp) ?_
              refine AllReadyH.cons rfl (fun K hK => ?_) AllReadyH.nil
              go_simp
              refine (cp.out (v2.alloc (.cells #[.int .i64 0, .slice none 0 0] 28)) g1 g2 e31 e32).mono ?_
              rintro xx v4 ⟨hq, hb4⟩
              obtain ⟨A3, c3, rfl, hF⟩ := hq.open_ HM0.out
              have dd4 : Below w2.heap.size w2 v4 := dd3.trans (hb4.mono dd3.size)
              have hlz := hz3.lt
              have hz4 := hz3.below hb4 hz3.lt
              have hS : v4.cell? ⟨w.heap.size, 0, none⟩ = some (.int .i64 n) ∧ v4.cell? ⟨w.heap.size, 1, none⟩ = some (.slice A L c) ∧ v4.cell? ⟨w.heap.size + 1, 0, none⟩ = some (.int .i64 m) ∧ v4.cell? ⟨w.heap.size + 1, 1, none⟩ = some (.slice B M d) := ⟨((bcell dd4).1 _ _ (by omega)).trans k00, ((bcell dd4).1 _ _ (by omega)).trans k01, ((bcell dd4).1 _ _ s2).trans k10, ((bcell dd4).1 _ _ s2).trans k11⟩
              refine hK.out _ _ ?s17 (fun hHeld17 => ?_)
              case s17 => ((try dsimp only); (first | exact hS | exact ⟨k00, k01, k10, k11⟩ | assumption | (first | go_keep | (obtain ⟨hq, _⟩ := bcell ‹Below _ _ _›; (repeat' apply And.intro) <;> (rw [hq _ _ (by first | assumption | omega | (simp; done) | (simp; omega) | (simp; assumption))] <;> (first | assumption | (simp [*]; done)))))))
              clear hK K hHeld
              have hHeld := hHeld17; clear hHeld17
              try simp only [Act.put, List.setIfInBounds_toArray, List.set_cons_zero, List.set_cons_succ]
              refine wpAnyH_take_d (i := 9) (d := some 35) (v := ?v18) rfl rfl (by kernel_rfl) (by kernel_rfl) (by kernel_rfl) (fun _ _ _ h => h) (Or.inl ⟨by kernel_rfl, ?y18⟩) (by assumption) ?_
              case y18 => (intro w' hSw; (try dsimp only at hSw); go_simp; try with_reducible rfl)
              try simp only [Act.put, List.setIfInBounds_toArray, List.set_cons_zero, List.set_cons_succ]
              refine wpAnyH_take_d (i := 10) (d := some 45) (v := ?v19) rfl rfl (by kernel_rfl) (by kernel_rfl) (by kernel_rfl) (fun _ _ _ h => h) (Or.inl ⟨by kernel_rfl, ?y19⟩) (by assumption) ?_
              case y19 => (intro w' hSw; (try dsimp only at hSw); go_simp; try with_reducible rfl)
              try simp only [Act.put, List.setIfInBounds_toArray, List.set_cons_zero, List.set_cons_succ]
              refine wpAnyH_take_d (i := 11) (d := some 46) (v := ?v20) rfl rfl (by kernel_rfl) (by kernel_rfl) (by kernel_rfl) (fun _ _ _ h => h) (Or.inl ⟨by kernel_rfl, ?y20⟩) (by assumption) ?_
              case y20 => (intro w' hSw; (try dsimp only at hSw); go_simp; try with_reducible rfl)
              try simp only [Act.put, List.setIfInBounds_toArray, List.set_cons_zero, List.set_cons_succ]
              have x0 := hz4.cellAt 0 _ rfl; have x1 : (v4.setCell ⟨v2.heap.size, 0, none⟩ (.int .i64 N)).cell? ⟨v2.heap.size, 1, none⟩ = some (.slice none 0 0) := (sc_other (by simp)).trans (hz4.cellAt 1 _ rfl); have f0 := hz4.frozen 0; have f1 := hz4.frozen 1
              refine wpAnyH_ready (rs := [13]) (by kernel_rfl) (by simp) ?_
              refine AllReadyH.cons rfl (fun K hK => ?_) AllReadyH.nil
              go_simp
              have hZ : Blk ((v4.setCell ⟨v2.heap.size, 0, none⟩ (.int .i64 N)).setCell ⟨v2.heap.size, 1, none⟩ (.slice A3 M0 c3)) v2.heap.size 28 #[.int .i64 N, .slice A3 M0 c3] := (hz4.set_ 0 (.int .i64 N)).set_ 1 (.slice A3 M0 c3)
              have cU : Below w2.heap.size w2 ((v4.setCell ⟨v2.heap.size, 0, none⟩ (.int .i64 N)).setCell ⟨v2.heap.size, 1, none⟩ (.slice A3 M0 c3)) := (dd4.setCell (by show w2.heap.size ≤ v2.heap.size; have := b0.size; have hh := dd4.size; (try simp at this); (try simp at hh); first | exact Nat.le_refl _ | omega | exact dd1.size | exact dd2.size | exact dd3.size) _).setCell (by show w2.heap.size ≤ v2.heap.size; have := b0.size; have hh := dd4.size; (try simp at this); (try simp at hh); first | exact Nat.le_refl _ | omega | exact dd1.size | exact dd2.size | exact dd3.size) _
              have hR : RdE ((v4.setCell ⟨v2.heap.size, 0, none⟩ (.int .i64 N)).setCell ⟨v2.heap.size, 1, none⟩ (.slice A3 M0 c3)) A3 rs := (hF.away (((Only.refl _ _).set 0 _).set 1 _ : Only (some ⟨v2.heap.size, 0, none⟩) v4 _) hlz).rd
              clear hS
              have hS : ((v4.setCell ⟨v2.heap.size, 0, none⟩ (.int .i64 N)).setCell ⟨v2.heap.size, 1, none⟩ (.slice A3 M0 c3)).cell? ⟨w.heap.size, 0, none⟩ = some (.int .i64 n) ∧ ((v4.setCell ⟨v2.heap.size, 0, none⟩ (.int .i64 N)).setCell ⟨v2.heap.size, 1, none⟩ (.slice A3 M0 c3)).cell? ⟨w.heap.size, 1, none⟩ = some (.slice A L c) ∧ ((v4.setCell ⟨v2.heap.size, 0, none⟩ (.int .i64 N)).setCell ⟨v2.heap.size, 1, none⟩ (.slice A3 M0 c3)).cell? ⟨w.heap.size + 1, 0, none⟩ = some (.int .i64 m) ∧ ((v4.setCell ⟨v2.heap.size, 0, none⟩ (.int .i64 N)).setCell ⟨v2.heap.size, 1, none⟩ (.slice A3 M0 c3)).cell? ⟨w.heap.size + 1, 1, none⟩ = some (.slice B M d) := ⟨((bcell cU).1 _ _ (by omega)).trans k00, ((bcell cU).1 _ _ (by omega)).trans k01, ((bcell cU).1 _ _ s2).trans k10, ((bcell cU).1 _ _ s2).trans k11⟩
              refine hK.out _ _ ?s21 (fun hHeld21 => ?_)
              case s21 => ((try dsimp only); (first | exact hS | exact ⟨k00, k01, k10, k11⟩ | assumption | (first | go_keep | (obtain ⟨hq, _⟩ := bcell ‹Below _ _ _›; (repeat' apply And.intro) <;> (rw [hq _ _ (by first | assumption | omega | (simp; done) | (simp; omega) | (simp; assumption))] <;> (first | assumption | (simp [*]; done)))))))
              clear hK K hHeld
              have hHeld := hHeld21; clear hHeld21
              try simp only [Act.put, List.setIfInBounds_toArray, List.set_cons_zero, List.set_cons_succ]
              have HU : Hid _ := hZ
              refine wpAnyH_take_d (i := 14) (d := some 15) (v := ?v22) rfl rfl (by kernel_rfl) (by kernel_rfl) (by kernel_rfl) (fun _ _ _ h => h) (Or.inl ⟨by kernel_rfl, ?y22⟩) (by assumption) ?_
              case y22 => (intro w' hSw; (try dsimp only at hSw); go_simp; try with_reducible rfl)
              try simp only [Act.put, List.setIfInBounds_toArray, List.set_cons_zero, List.set_cons_succ]
              refine wpAnyH_done (by kernel_rfl) ?_ _
              refine NoPanic.normal ?_
              (try go_wp2_with fail)
              go_meet
              exact ⟨_, A3, c3, rfl, rfl, Lib.hid hZ, Lib.hid hR, Lib.hid cU⟩
          · go_simp
            have dd2 : Below w2.heap.size w2 (v1.alloc (.cells #[.int .i64 0, .slice none 0 0] 28)) := dd1.alloc dd1.size _
            have hz2 : Blk (v1.alloc (.cells #[.int .i64 0, .slice none 0 0] 28)) v1.heap.size 28 #[.int .i64 0, .slice none 0 0] := Blk.new v1 _ _
            have e21 := hE1.alloc (.cells #[.int .i64 0, .slice none 0 0] 28)
            have hS : (v1.alloc (.cells #[.int .i64 0, .slice none 0 0] 28)).cell? ⟨w.heap.size, 0, none⟩ = some (.int .i64 n) ∧ (v1.alloc (.cells #[.int .i64 0, .slice none 0 0] 28)).cell? ⟨w.heap.size, 1, none⟩ = some (.slice A L c) ∧ (v1.alloc (.cells #[.int .i64 0, .slice none 0 0] 28)).cell? ⟨w.heap.size + 1, 0, none⟩ = some (.int .i64 m) ∧ (v1.alloc (.cells #[.int .i64 0, .slice none 0 0] 28)).cell? ⟨w.heap.size + 1, 1, none⟩ = some (.slice B M d) := ⟨((bcell dd2).1 _ _ (by omega)).trans k00, ((bcell dd2).1 _ _ (by omega)).trans k01, ((bcell dd2).1 _ _ s2).trans k10, ((bcell dd2).1 _ _ s2).trans k11⟩
            refine hK.out _ _ ?s23 (fun hHeld23 => ?_)
            case s23 => ((try dsimp only); (first | exact hS | exact ⟨k00, k01, k10, k11⟩ | assumption | (first | go_keep | (obtain ⟨hq, _⟩ := bcell ‹Below _ _ _›; (repeat' apply And.intro) <;> (rw [hq _ _ (by first | assumption | omega | (simp; done) | (simp; omega) | (simp; assumption))] <;> (first | assumption | (simp [*]; done)))))))
            clear hK K hHeld
            have hHeld := hHeld23; clear hHeld23
            try simp only [Act.put, List.setIfInBounds_toArray, List.set_cons_zero, List.set_cons_succ]
            refine wpAnyH_ready (rs := [5]) (by kernel_rfl) (by simp) ?_
            refine AllReadyH.cons rfl (fun K hK => ?_) AllReadyH.nil
            go_simp
            refine (ct2.out _ (B2.trans (dd2.mono B2.size))).mono ?_
            rintro xx v3 ⟨g2, rfl, hg2, hE2, hb3⟩
            have dd3 : Below w2.heap.size w2 v3 := dd2.trans (hb3.mono dd2.size)
            have e31 := e21.below hb3 e21.lt
            have hz3 := hz2.below hb3 hz2.lt
            have hS : v3.cell? ⟨w.heap.size, 0, none⟩ = some (.int .i64 n) ∧ v3.cell? ⟨w.heap.size, 1, none⟩ = some (.slice A L c) ∧ v3.cell? ⟨w.heap.size + 1, 0, none⟩ = some (.int .i64 m) ∧ v3.cell? ⟨w.heap.size + 1, 1, none⟩ = some (.slice B M d) := ⟨((bcell dd3).1 _ _ (by omega)).trans k00, ((bcell dd3).1 _ _ (by omega)).trans k01, ((bcell dd3).1 _ _ s2).trans k10, ((bcell dd3).1 _ _ s2).trans k11⟩
            refine hK.out _ _ ?s24 (fun hHeld24 => ?_)
            case s24 => ((try dsimp only); (first | exact hS | exact ⟨k00, k01, k10, k11⟩ | assumption | (first | go_keep | (obtain ⟨hq, _⟩ := bcell ‹Below _ _ _›; (repeat' apply And.intro) <;> (rw [hq _ _ (by first | assumption | omega | (simp; done) | (simp; omega) | (simp; assumption))] <;> (first | assumption | (simp [*]; done)))))))
            clear hK K hHeld
            have hHeld := hHeld24; clear hHeld24
            try simp only [Act.put, List.setIfInBounds_toArray, List.set_cons_zero, List.set_cons_succ]
            refine wpAnyH_ready (rs := [8]) (by kernel_rfl) (by simp) ?_
            refine AllReadyH.cons rfl (fun K hK => ?_) AllReadyH.nil
            go_simp
            refine (cp.out v3 g1 g2 e31 hE2).mono ?_
            rintro xx v4 ⟨hq, hb4⟩
            obtain ⟨A3, c3, rfl, hF⟩ := hq.open_ HM0.out
            have dd4 : Below w2.heap.size w2 v4 := dd3.trans (hb4.mono dd3.size)
            have hlz := hz3.lt
            have hz4 := hz3.below hb4 hz3.lt
            have hS : v4.cell? ⟨w.heap.size, 0, none⟩ = some (.int .i64 n) ∧ v4.cell? ⟨w.heap.size, 1, none⟩ = some (.slice A L c) ∧ v4.cell? ⟨w.heap.size + 1, 0, none⟩ = some (.int .i64 m) ∧ v4.cell? ⟨w.heap.size + 1, 1, none⟩ = some (.slice B M d) := ⟨((bcell dd4).1 _ _ (by omega)).trans k00, ((bcell dd4).1 _ _ (by omega)).trans k01, ((bcell dd4).1 _ _ s2).trans k10, ((bcell dd4).1 _ _ s2).trans k11⟩
            refine hK.out _ _ ?s25 (fun hHeld25 => ?_)
            case s25 => ((try dsimp only); (first | exact hS | exact ⟨k00, k01, k10, k11⟩ | assumption | (first | go_keep | (obtain ⟨hq, _⟩ := bcell ‹Below _ _ _›; (repeat' apply And.intro) <;> (rw [hq _ _ (by first | assumption | omega | (simp; done) | (simp; omega) | (simp; assumption))] <;> (first | assumption | (simp [*]; done)))))))
            clear hK K hHeld
            have hHeld := hHeld25; clear hHeld25
            try simp only [Act.put, List.setIfInBounds_toArray, List.set_cons_zero, List.set_cons_succ]
            refine wpAnyH_take_d (i := 9) (d := some 35) (v := ?v26) rfl rfl (by kernel_rfl) (by kernel_rfl) (by kernel_rfl) (fun _ _ _ h => h) (Or.inl ⟨by kernel_rfl, ?y26⟩) (by assumption) ?_
            case y26 => (intro w' hSw; (try dsimp only at hSw); go_simp; try with_reducible rfl)
            try simp only [Act.put, List.setIfInBounds_toArray, List.set_cons_zero, List.set_cons_succ]
            refine wpAnyH_take_d (i := 10) (d := some 45) (v := ?v27) rfl rfl (by kernel_rfl) (by kernel_rfl) (by kernel_rfl) (fun _ _ _ h => h) (Or.inl ⟨by kernel_rfl, ?y27⟩) (by assumption) ?_
            case y27 => (intro w' hSw; (try dsimp only at hSw); go_simp; try with_reducible rfl)
            try simp only [Act.put, List.setIfInBounds_toArray, List.set_cons_zero, List.set_cons_succ]
            refine wpAnyH_take_d (i := 11) (d := some 46) (v := ?v28) rfl rfl (by kernel_rfl) (by kernel_rfl) (by kernel_rfl) (fun _ _ _ h => h) (Or.inl ⟨by kernel_rfl, ?y28⟩) (by assumption) ?_
            case y28 => (intro w' hSw; (try dsimp only at hSw); go_simp; try with_reducible rfl)
            try simp only [Act.put, List.setIfInBounds_toArray, List.set_cons_zero, List.set_cons_succ]
            have x0 := hz4.cellAt 0 _ rfl; have x1 : (v4.setCell ⟨v1.heap.size, 0, none⟩ (.int .i64 N)).cell? ⟨v1.heap.size, 1, none⟩ = some (.slice none 0 0) := (sc_other (by simp)).trans (hz4.cellAt 1 _ rfl); have f0 := hz4.frozen 0; have f1 := hz4.frozen 1
            refine wpAnyH_ready (rs := [13]) (by kernel_rfl) (by simp) ?_
            refine AllReadyH.cons rfl (fun K hK => ?_) AllReadyH.nil
            go_simp
            have hZ : Blk ((v4.setCell ⟨v1.heap.size, 0, none⟩ (.int .i64 N)).setCell ⟨v1.heap.size, 1, none⟩ (.slice A3 M0 c3)) v1.heap.size 28 #[.int .i64 N, .slice A3 M0 c3] := (hz4.set_ 0 (.int .i64 N)).set_ 1 (.slice A3 M0 c3)
            have cU : Below w2.heap.size w2 ((v4.setCell ⟨v1.heap.size, 0, none⟩ (.int .i64 N)).setCell ⟨v1.heap.size, 1, none⟩ (.slice A3 M0 c3)) := (dd4.setCell (by show w2.heap.size ≤ v1.heap.size; have := b0.size; have hh := dd4.size; (try simp at this); (try simp at hh); first | exact Nat.le_refl _ | omega | exact dd1.size | exact dd2.size | exact dd3.size) _).setCell (by show w2.heap.size ≤ v1.heap.size; have := b0.size; have hh := dd4.size; (try simp at this); (try simp at hh); first | exact Nat.le_refl _ | omega | exact dd1.size | exact dd2.size | exact dd3.size) _
            have hR : RdE ((v4.setCell ⟨v1.heap.size, 0, none⟩ (.int .i64 N)).setCell ⟨v1.heap.size, 1, none⟩ (.slice A3 M0 c3)) A3 rs := (hF.away (((Only.refl _ _).set 0 _).set 1 _ : Only (some ⟨v1.heap.size, 0, none⟩) v4 _) hlz).rd
            clear hS
            have hS : ((v4.setCell ⟨v1.heap.size, 0, none⟩ (.int .i64 N)).setCell ⟨v1.heap.size, 1, none⟩ (.slice A3 M0 c3)).cell? ⟨w.heap.size, 0, none⟩ = some (.int .i64 n) ∧ ((v4.setCell ⟨v1.heap.size, 0, none⟩ (.int .i64 N)).setCell ⟨v1.heap.size, 1, none⟩ (.slice A3 M0 c3)).cell? ⟨w.heap.size, 1, none⟩ = some (.slice A L c) ∧ ((v4.setCell ⟨v1.heap.size, 0, none⟩ (.int .i64 N)).setCell ⟨v1.heap.size, 1, none⟩ (.slice A3 M0 c3)).cell? ⟨w.heap.size + 1, 0, none⟩ = some (.int .i64 m) ∧ ((v4.setCell ⟨v1.heap.size, 0, none⟩ (.int .i64 N)).setCell ⟨v1.heap.size, 1, none⟩ (.slice A3 M0 c3)).cell? ⟨w.heap.size + 1, 1, none⟩ = some (.slice B M d) := ⟨((bcell cU).1 _ _ (by omega)).trans k00, ((bcell cU).1 _ _ (by omega)).trans k01, ((bcell cU).1 _ _ s2).trans k10, ((bcell cU).1 _ _ s2).trans k11⟩
            refine hK.out _ _ ?s29 (fun hHeld29 => ?_)
            case s29 => ((try dsimp only); (first | exact hS | exact ⟨k00, k01, k10, k11⟩ | assumption | (first | go_keep | (obtain ⟨hq, _⟩ := bcell ‹Below _ _ _›; (repeat' apply And.intro) <;> (rw [hq _ _ (by first | assumption | omega | (simp; done) | (simp; omega) | (simp; assumption))] <;> (first | assumption | (simp [*]; done)))))))
            clear hK K hHeld
            have hHeld := hHeld29; clear hHeld29
            try simp only [Act.put, List.setIfInBounds_toArray, List.set_cons_zero, List.set_cons_succ]
            have HU : Hid _ := hZ
            refine wpAnyH_take_d (i := 14) (d := some 15) (v := ?v30) rfl rfl (by kernel_rfl) (by kernel_rfl) (by kernel_rfl) (fun _ _ _ h => h) (Or.inl ⟨by kernel_rfl, ?y30⟩) (by assumption) ?_
            case y30 => (intro w' hSw; (try dsimp only at hSw); go_simp; try with_reducible rfl)
            try simp only [Act.put, List.setIfInBounds_toArray, List.set_cons_zero, List.set_cons_succ]
            refine wpAnyH_done (by kernel_rfl) ?_ _
            refine NoPanic.normal ?_
            (try go_wp2_with fail)
            go_meet
            exact ⟨_, A3, c3, rfl, rfl, Lib.hid hZ, Lib.hid hR, Lib.hid cU⟩
        · go_simp
          have dd1 : Below w2.heap.size w2 (w2.drew.alloc (.cells #[.int .i64 0, .slice none 0 0] 28)) := b0.alloc b0.size _
          have hz1 : Blk (w2.drew.alloc (.cells #[.int .i64 0, .slice none 0 0] 28)) w2.heap.size 28 #[.int .i64 0, .slice none 0 0] := Blk.new w2.drew _ _
          have hS : (w2.drew.alloc (.cells #[.int .i64 0, .slice none 0 0] 28)).cell? ⟨w.heap.size, 0, none⟩ = some (.int .i64 n) ∧ (w2.drew.alloc (.cells #[.int .i64 0, .slice none 0 0] 28)).cell? ⟨w.heap.size, 1, none⟩ = some (.slice A L c) ∧ (w2.drew.alloc (.cells #[.int .i64 0, .slice none 0 0] 28)).cell? ⟨w.heap.size + 1, 0, none⟩ = some (.int .i64 m) ∧ (w2.drew.alloc (.cells #[.int .i64 0, .slice none 0 0] 28)).cell? ⟨w.heap.size + 1, 1, none⟩ = some (.slice B M d) := ⟨((bcell dd1).1 _ _ (by omega)).trans k00, ((bcell dd1).1 _ _ (by omega)).trans k01, ((bcell dd1).1 _ _ s2).trans k10, ((bcell dd1).1 _ _ s2).trans k11⟩
          refine hK.out _ _ ?s31 (fun hHeld31 => ?_)
          case s31 => ((try dsimp only); (first | exact hS | exact ⟨k00, k01, k10, k11⟩ | assumption | (first | go_keep | (obtain ⟨hq, _⟩ := bcell ‹Below _ _ _›; (repeat' apply And.intro) <;> (rw [hq _ _ (by first | assumption | omega | (simp; done) | (simp; omega) | (simp; assumption))] <;> (first | assumption | (simp [*]; done)))))))
          clear hK K hHeld
          have hHeld := hHeld31; clear hHeld31
          try simp only [Act.put, List.setIfInBounds_toArray, List.set_cons_zero, List.set_cons_succ]
          refine wpAnyH_ready (rs := [1]) (by kernel_rfl) (by simp) ?_
          refine AllReadyH.cons rfl (fun K hK => ?_) AllReadyH.nil
          go_simp
          refine (ct1.out _ (B2.trans (dd1.mono B2.size))).mono ?_
          rintro xx v2 ⟨g1, rfl, hg1, hE1, hb2⟩
          have dd2 : Below w2.heap.size w2 v2 := dd1.trans (hb2.mono dd1.size)
          have hz2 := hz1.below hb2 hz1.lt
          have hS : v2.cell? ⟨w.heap.size, 0, none⟩ = some (.int .i64 n) ∧ v2.cell? ⟨w.heap.size, 1, none⟩ = some (.slice A L c) ∧ v2.cell? ⟨w.heap.size + 1, 0, none⟩ = some (.int .i64 m) ∧ v2.cell? ⟨w.heap.size + 1, 1, none⟩ = some (.slice B M d) := ⟨((bcell dd2).1 _ _ (by omega)).trans k00, ((bcell dd2).1 _ _ (by omega)).trans k01, ((bcell dd2).1 _ _ s2).trans k10, ((bcell dd2).1 _ _ s2).trans k11⟩
          refine hK.out _ _ ?s32 (fun hHeld32 => ?_)
          case s32 => ((try dsimp only); (first | exact hS | exact ⟨k00, k01, k10, k11⟩ | assumption | (first | go_keep | (obtain ⟨hq, _⟩ := bcell ‹Below _ _ _›; (repeat' apply And.intro) <;> (rw [hq _ _ (by first | assumption | omega | (simp; done) | (simp; omega) | (simp; assumption))] <;> (first | assumption | (simp [*]; done)))))))
          clear hK K hHeld
          have hHeld := hHeld32; clear hHeld32
          try simp only [Act.put, List.setIfInBounds_toArray, List.set_cons_zero, List.set_cons_succ]
          refine wpAnyH_ready (rs := [5]) (by kernel_rfl) (by simp) ?_
          refine AllReadyH.cons rfl (fun K hK => ?_) AllReadyH.nil
          go_simp
          refine (ct2.out _ (B2.trans (dd2.mono B2.size))).mono ?_
          rintro xx v3 ⟨g2, rfl, hg2, hE2, hb3⟩
          have dd3 : Below w2.heap.size w2 v3 := dd2.trans (hb3.mono dd2.size)
          have e31 := hE1.below hb3 hE1.lt
          have hz3 := hz2.below hb3 hz2.lt
          have hS : v3.cell? ⟨w.heap.size, 0, none⟩ = some (.int .i64 n) ∧ v3.cell? ⟨w.heap.size, 1, none⟩ = some (.slice A L c) ∧ v3.cell? ⟨w.heap.size + 1, 0, none⟩ = some (.int .i64 m) ∧ v3.cell? ⟨w.heap.size + 1, 1, none⟩ = some (.slice B M d) := ⟨((bcell dd3).1 _ _ (by omega)).trans k00, ((bcell dd3).1 _ _ (by omega)).trans k01, ((bcell dd3).1 _ _ s2).trans k10, ((bcell dd3).1 _ _ s2).trans k11⟩
          refine hK.out _ _ ?s33 (fun hHeld33 => ?_)
          case s33 => ((try dsimp only); (first | exact hS | exact ⟨k00, k01, k10, k11⟩ | assumption | (first | go_keep | (obtain ⟨hq, _⟩ := bcell ‹Below _ _ _›; (repeat' apply And.intro) <;> (rw [hq _ _ (by first | assumption | omega | (simp; done) | (simp; omega) | (simp; assumption))] <;> (first | assumption | (simp [*]; done)))))))
          clear hK K hHeld
          have hHeld := hHeld33; clear hHeld33
          try simp only [Act.put, List.setIfInBounds_toArray, List.set_cons_zero, List.set_cons_succ]
          refine wpAnyH_ready (rs := [8]) (by kernel_rfl) (by simp) ?_
          refine AllReadyH.cons rfl (fun K hK => ?_) AllReadyH.nil
          go_simp
          refine (cp.out v3 g1 g2 e31 hE2).mono ?_
          rintro xx v4 ⟨hq, hb4⟩
          obtain ⟨A3, c3, rfl, hF⟩ := hq.open_ HM0.out
          have dd4 : Below w2.heap.size w2 v4 := dd3.trans (hb4.mono dd3.size)
          have hlz := hz3.lt
          have hz4 := hz3.below hb4 hz3.lt
          have hS : v4.cell? ⟨w.heap.size, 0, none⟩ = some (.int .i64 n) ∧ v4.cell? ⟨w.heap.size, 1, none⟩ = some (.slice A L c) ∧ v4.cell? ⟨w.heap.size + 1, 0, none⟩ = some (.int .i64 m) ∧ v4.cell? ⟨w.heap.size + 1, 1, none⟩ = some (.slice B M d) := ⟨((bcell dd4).1 _ _ (by omega)).trans k00, ((bcell dd4).1 _ _ (by omega)).trans k01, ((bcell dd4).1 _ _ s2).trans k10, ((bcell dd4).1 _ _ s2).trans k11⟩
          refine hK.out _ _ ?s34 (fun hHeld34 => ?_)
          case s34 => ((try dsimp only); (first | exact hS | exact ⟨k00, k01, k10, k11⟩ | assumption | (first | go_keep | (obtain ⟨hq, _⟩ := bcell ‹Below _ _ _›; (repeat' apply And.intro) <;> (rw [hq _ _ (by first | assumption | omega | (simp; done) | (simp; omega) | (simp; assumption))] <;> (first | assumption | (simp [*]; done)))))))
          clear hK K hHeld
          have hHeld := hHeld34; clear hHeld34
          try simp only [Act.put, List.setIfInBounds_toArray, List.set_cons_zero, List.set_cons_succ]
          refine wpAnyH_take_d (i := 9) (d := some 35) (v := ?v35) rfl rfl (by kernel_rfl) (by kernel_rfl) (by kernel_rfl) (fun _ _ _ h => h) (Or.inl ⟨by kernel_rfl, ?y35⟩) (by assumption) ?_
          case y35 => (intro w' hSw; (try dsimp only at hSw); go_simp; try with_reducible rfl)
          try simp only [Act.put, List.setIfInBounds_toArray, List.set_cons_zero, List.set_cons_succ]
          refine wpAnyH_take_d (i := 10) (d := some 45) (v := ?v36) rfl rfl (by kernel_rfl) (by kernel_rfl) (by kernel_rfl) (fun _ _ _ h => h) (Or.inl ⟨by kernel_rfl, ?y36⟩) (by assumption) ?_
          case y36 => (intro w' hSw; (try dsimp only at hSw); go_simp; try with_reducible rfl)
          try simp only [Act.put, List.setIfInBounds_toArray, List.set_cons_zero, List.set_cons_succ]
          refine wpAnyH_take_d (i := 11) (d := some 46) (v := ?v37) rfl rfl (by kernel_rfl) (by kernel_rfl) (by kernel_rfl) (fun _ _ _ h => h) (Or.inl ⟨by kernel_rfl, ?y37⟩) (by assumption) ?_
          case y37 => (intro w' hSw; (try dsimp only at hSw); go_simp; try with_reducible rfl)
          try simp only [Act.put, List.setIfInBounds_toArray, List.set_cons_zero, List.set_cons_succ]
          have x0 := hz4.cellAt 0 _ rfl; have x1 : (v4.setCell ⟨w2.heap.size, 0, none⟩ (.int .i64 N)).cell? ⟨w2.heap.size, 1, none⟩ = some (.slice none 0 0) := (sc_other (by simp)).trans (hz4.cellAt 1 _ rfl); have f0 := hz4.frozen 0; have f1 := hz4.frozen 1
          refine wpAnyH_ready (rs := [13]) (by kernel_rfl) (by simp) ?_
          refine AllReadyH.cons rfl (fun K hK => ?_) AllReadyH.nil
          go_simp
          have hZ : Blk ((v4.setCell ⟨w2.heap.size, 0, none⟩ (.int .i64 N)).setCell ⟨w2.heap.size, 1, none⟩ (.slice A3 M0 c3)) w2.heap.size 28 #[.int .i64 N, .slice A3 M0 c3] := (hz4.set_ 0 (.int .i64 N)).set_ 1 (.slice A3 M0 c3)
          have cU : Below w2.heap.size w2 ((v4.setCell ⟨w2.heap.size, 0, none⟩ (.int .i64 N)).setCell ⟨w2.heap.size, 1, none⟩ (.slice A3 M0 c3)) := (dd4.setCell (by show w2.heap.size ≤ w2.heap.size; have := b0.size; have hh := dd4.size; (try simp at this); (try simp at hh); first | exact Nat.le_refl _ | omega | exact dd1.size | exact dd2.size | exact dd3.size) _).setCell (by show w2.heap.size ≤ w2.heap.size; have := b0.size; have hh := dd4.size; (try simp at this); (try simp at hh); first | exact Nat.le_refl _ | omega | exact dd1.size | exact dd2.size | exact dd3.size) _
          have hR : RdE ((v4.setCell ⟨w2.heap.size, 0, none⟩ (.int .i64 N)).setCell ⟨w2.heap.size, 1, none⟩ (.slice A3 M0 c3)) A3 rs := (hF.away (((Only.refl _ _).set 0 _).set 1 _ : Only (some ⟨w2.heap.size, 0, none⟩) v4 _) hlz).rd
          clear hS
          have hS : ((v4.setCell ⟨w2.heap.size, 0, none⟩ (.int .i64 N)).setCell ⟨w2.heap.size, 1, none⟩ (.slice A3 M0 c3)).cell? ⟨w.heap.size, 0, none⟩ = some (.int .i64 n) ∧ ((v4.setCell ⟨w2.heap.size, 0, none⟩ (.int .i64 N)).setCell ⟨w2.heap.size, 1, none⟩ (.slice A3 M0 c3)).cell? ⟨w.heap.size, 1, none⟩ = some (.slice A L c) ∧ ((v4.setCell ⟨w2.heap.size, 0, none⟩ (.int .i64 N)).setCell ⟨w2.heap.size, 1, none⟩ (.slice A3 M0 c3)).cell? ⟨w.heap.size + 1, 0, none⟩ = some (.int .i64 m) ∧ ((v4.setCell ⟨w2.heap.size, 0, none⟩ (.int .i64 N)).setCell ⟨w2.heap.size, 1, none⟩ (.slice A3 M0 c3)).cell? ⟨w.heap.size + 1, 1, none⟩ = some (.slice B M d) := ⟨((bcell cU).1 _ _ (by omega)).trans k00, ((bcell cU).1 _ _ (by omega)).trans k01, ((bcell cU).1 _ _ s2).trans k10, ((bcell cU).1 _ _ s2).trans k11⟩
          refine hK.out _ _ ?s38 (fun hHeld38 => ?_)
          case s38 => ((try dsimp only); (first | exact hS | exact ⟨k00, k01, k10, k11⟩ | assumption | (first | go_keep | (obtain ⟨hq, _⟩ := bcell ‹Below _ _ _›; (repeat' apply And.intro) <;> (rw [hq _ _ (by first | assumption | omega | (simp; done) | (simp; omega) | (simp; assumption))] <;> (first | assumption | (simp [*]; done)))))))
          clear hK K hHeld
          have hHeld := hHeld38; clear hHeld38
          try simp only [Act.put, List.setIfInBounds_toArray, List.set_cons_zero, List.set_cons_succ]
          have HU : Hid _ := hZ
          refine wpAnyH_take_d (i := 14) (d := some 15) (v := ?v39) rfl rfl (by kernel_rfl) (by kernel_rfl) (by kernel_rfl) (fun _ _ _ h => h) (Or.inl ⟨by kernel_rfl, ?y39⟩) (by assumption) ?_
          case y39 => (intro w' hSw; (try dsimp only at hSw); go_simp; try with_reducible rfl)
          try simp only [Act.put, List.setIfInBounds_toArray, List.set_cons_zero, List.set_cons_succ]
          refine wpAnyH_done (by kernel_rfl) ?_ _
          refine NoPanic.normal ?_
          (try go_wp2_with fail)
          go_meet
          exact ⟨_, A3, c3, rfl, rfl, Lib.hid hZ, Lib.hid hR, Lib.hid cU⟩
      case rest =>
        obtain ⟨gX, A3, c3, rfl, rfl, X0, W0, Hu⟩ := hcut
        obtain ⟨u3, hu3⟩ : ∃ u, u = wc := ⟨_, rfl⟩
        subst hu3
        have KG3 := Lib.hid (KG2.out.below Hu.out (by omega))
        have KH3 := Lib.hid (KH2.out.below Hu.out s2)
        have B3 := Lib.hid (B2.trans (Hu.out.mono B2.size))
        have s3 := KH3.out.lt
        clear KG2 KH2 B2 s2 k00 k01 k10 k11 cp cs cs2 Hu
        have k00 := KG3.out.cellAt 0 _ rfl
        have k01 := KG3.out.cellAt 1 _ rfl
        go_wp2_with fail
        refine (ct1.out u3 B3.out).mono ?_
        rintro x w7 ⟨gA, rfl, hgA, hE7, hb7⟩
        obtain ⟨u7, hu7⟩ : ∃ u, u = w7.alloc (.cells #[.int .i64 n, .slice (some ⟨gA, 0, none⟩) L L] 28) := ⟨_, rfl⟩
        have D7 : Hid (Below u3.heap.size u3 u7) := by rw [hu7]; exact hb7.alloc hb7.size _
        have X7 : Hid (Blk u7 w7.heap.size 28 #[.int .i64 n, .slice (some ⟨gA, 0, none⟩) L L]) := by rw [hu7]; exact Blk.new w7 _ _
        have E7 : Hid (Blk u7 gA 40 (cE es).toArray) := by rw [hu7]; exact hE7.alloc _
        have KH7 := Lib.hid (KH3.out.below D7.out s3)
        have B7 := Lib.hid (B3.out.trans (D7.out.mono B3.out.size))
        have HgA := Lib.hid hgA
        have k10 := KH7.out.cellAt 0 _ rfl
        have k11 := KH7.out.cellAt 1 _ rfl
        rw [hu7] at k10 k11
        clear hE7 hb7 hgA k00 k01 KH7
        go_wp2_with fail
        rw [← hu7]
        clear hu7
        refine (ct2.out u7 B7.out).mono ?_
        rintro x w8 ⟨gB, rfl, hgB, hE8, hb8⟩
        obtain ⟨u8, hu8⟩ : ∃ u, u = w8.alloc (.cells #[.int .i64 m, .slice (some ⟨gB, 0, none⟩) M M] 28) := ⟨_, rfl⟩
        have b78 : Below u7.heap.size u7 u8 := by rw [hu8]; exact hb8.alloc hb8.size _
        have HAB : Hid (gA < gB) := Nat.lt_of_lt_of_le E7.out.lt hgB
        have HAY : Hid (gA < w8.heap.size) := Nat.lt_of_lt_of_le E7.out.lt hb8.size
        have Y8 : Hid (Blk u8 w8.heap.size 28 #[.int .i64 m, .slice (some ⟨gB, 0, none⟩) M M]) := by rw [hu8]; exact Blk.new w8 _ _
        have F8 : Hid (Blk u8 gB 40 (cE hs).toArray) := by rw [hu8]; exact hE8.alloc _
        have X8 := Lib.hid (X7.out.below b78 X7.out.lt)
        have E8 := Lib.hid (E7.out.below b78 E7.out.lt)
        have D8 : Hid (Below u3.heap.size u3 u8) := D7.out.trans (b78.mono D7.out.size)
        have x0 := X8.out.cellAt 0 _ rfl
        have x1 := X8.out.cellAt 1 _ rfl
        have y0 := Y8.out.cellAt 0 _ rfl
        have y1 := Y8.out.cellAt 1 _ rfl
        rw [hu8] at x0 x1 y0 y1
        clear hE8 hb8 hgB b78 B7 X7 E7 D7 k10 k11
        go_wp2_with fail
        rw [← hu8]
        clear hu8
        refine (ci.out u8 gA gB E8.out F8.out).mono ?_
        rintro x w10 ⟨hq10, hb10⟩
        obtain ⟨A5, c5, rfl, hF5⟩ := hq10.open_ HM0.out
        obtain ⟨u10, hu10⟩ : ∃ u, u = w10.alloc (.cells #[.int .i64 N, .slice A5 M0 c5] 28) := ⟨_, rfl⟩
        have b10 : Below w10.heap.size w10 u10 := by rw [hu10]; exact Below.alloc (Below.refl _ _) (Nat.le_refl _) _
        have bb10 : Below u8.heap.size u8 u10 := hb10.trans (b10.mono hb10.size)
        have D10 : Hid (Below u3.heap.size u3 u10) := D8.out.trans (bb10.mono D8.out.size)
        have G10 : Hid (Blk u10 w10.heap.size 28 #[.int .i64 N, .slice A5 M0 c5]) := by rw [hu10]; exact Blk.new w10 _ _
        have U10 : Hid (UpE w10.heap.size A5 rs) := hF5.up
        have FR10 : Hid (FrE u10 u8.heap.size A5 rs) := hF5.below b10
        have X10 := Lib.hid (X8.out.below bb10 X8.out.lt)
        have E10 := Lib.hid (E8.out.below bb10 E8.out.lt)
        have Y10 := Lib.hid (Y8.out.below bb10 Y8.out.lt)
        have F10 := Lib.hid (F8.out.below bb10 F8.out.lt)
        have HA8 : Hid (gA < u8.heap.size) := E8.out.lt
        have HB8 : Hid (gB < u8.heap.size) := F8.out.lt
        have H810 : Hid (u8.heap.size ≤ w10.heap.size) := hb10.size
        have x50 := G10.out.cellAt 0 _ rfl
        have x51 := G10.out.cellAt 1 _ rfl
        have y50 := (X0.out.below D10.out X0.out.lt).cellAt 0 _ rfl
        have y51 := (X0.out.below D10.out X0.out.lt).cellAt 1 _ rfl
        rw [hu10] at x50 x51 y50 y51
        clear hq10 hF5 hb10 b10 bb10 X8 E8 Y8 F8 D8 x0 x1 y0 y1
        go_wp2_with fail
        rw [← hu10]
        clear hu10
        refine (cq.out _ _ _ _ _ FR10.out.rd (W0.out.below D10.out)).mono ?_
        rintro x w11 ⟨rfl, hb11⟩
        have D11 : Hid (Below u3.heap.size u3 w11) := D10.out.trans (hb11.mono D10.out.size)
        have FR11 := Lib.hid (FR10.out.below hb11)
        have G11 := Lib.hid (G10.out.below hb11 G10.out.lt)
        have X11 := X10.out.below hb11 X10.out.lt
        have E11 := E10.out.below hb11 E10.out.lt
        have Y11 := Lib.hid (Y10.out.below hb11 Y10.out.lt)
        have F11 := Lib.hid (F10.out.below hb11 F10.out.lt)
        have KG11 := KG3.out.below D11.out KG3.out.lt
        have B11 := B3.out.trans (D11.out.mono B3.out.size)
        clear hb11 D10 FR10 G10 X10 E10 Y10 F10 x50 x51 y50 y51
        have x0 := X11.cellAt 0 _ rfl
        have x1 := X11.cellAt 1 _ rfl
        have d0 := KG11.cellAt 0 _ rfl
        have d1 := KG11.cellAt 1 _ rfl
        have zx := X11.lt
        have zk := KG11.lt
        go_wp2
        refine wp_region_noPanic ?_
        refine wp_region_held_drew (S := (fun w' => w'.cell? ⟨w.heap.size, 0, none⟩ = some (.int .i64 n) ∧ w'.cell? ⟨w.heap.size, 1, none⟩ = some (.slice A L c) ∧ w'.cell? ⟨w7.heap.size, 0, none⟩ = some (.int .i64 n) ∧ w'.cell? ⟨w7.heap.size, 1, none⟩ = some (.slice (some ⟨gA, 0, none⟩) L L))) (by kernel_rfl) ?_ (fun hHeld => ?_)
        · (try dsimp only); (first | go_keep | (obtain ⟨hq, _⟩ := bcell ‹Below _ _ _›; (repeat' apply And.intro) <;> (rw [hq _ _ (by first | assumption | omega | (simp; done) | (simp; omega) | (simp; assumption))] <;> (first | assumption | (simp [*]; done)))))
        refine wpAnyH_take_d (i := 0) (d := some 70) (v := ?v40) rfl rfl (by kernel_rfl) (by kernel_rfl) (by kernel_rfl) (fun _ _ _ h => h) (Or.inl ⟨by kernel_rfl, ?y40⟩) (by assumption) ?_
        case y40 => (intro w' hSw; (try dsimp only at hSw); go_simp; try with_reducible rfl)
        try simp only [Act.put, List.setIfInBounds_toArray, List.set_cons_zero, List.set_cons_succ]
        refine wpAnyH_take_d (i := 1) (d := some 71) (v := ?v41) rfl rfl (by kernel_rfl) (by kernel_rfl) (by kernel_rfl) (fun _ _ _ h => h) (Or.inl ⟨by kernel_rfl, ?y41⟩) (by assumption) ?_
        case y41 => (intro w' hSw; (try dsimp only at hSw); go_simp; try with_reducible rfl)
        try simp only [Act.put, List.setIfInBounds_toArray, List.set_cons_zero, List.set_cons_succ]
        refine wpAnyH_ready (rs := [2]) (by kernel_rfl) (by simp) ?_
        refine AllReadyH.cons rfl (fun K hK => ?_) AllReadyH.nil
        go_simp
        refine (ct1.out _ B11.drew).mono ?_; rintro x w12 ⟨g3, rfl, hg3, hE3, hb12⟩; have z12 := hb12.size; (try simp only [World.size_alloc, World.size_setCell, World.size_drew] at z12)
        refine hK.out _ _ ?s42 (fun hHeld42 => ?_)
        case s42 => ((try dsimp only); (first | go_keep | (obtain ⟨hq, _⟩ := bcell ‹Below _ _ _›; (repeat' apply And.intro) <;> (rw [hq _ _ (by first | assumption | omega | (simp; done) | (simp; omega) | (simp; assumption))] <;> (first | assumption | (simp [*]; done))))))
        clear hK K hHeld
        have hHeld := hHeld42; clear hHeld42
        try simp only [Act.put, List.setIfInBounds_toArray, List.set_cons_zero, List.set_cons_succ]
        refine wpAnyH_ready (rs := [3]) (by kernel_rfl) (by simp) ?_
        refine AllReadyH.cons rfl (fun K hK => ?_) AllReadyH.nil
        go_simp
        refine (ce1.out _ _ _ (E11.drew.below hb12 E11.lt) hE3).mono ?_; rintro x w13 ⟨rfl, hb13⟩; have z13 := hb13.size; (try simp only [World.size_alloc, World.size_setCell, World.size_drew] at z13)
        refine hK.out _ _ ?s43 (fun hHeld43 => ?_)
        case s43 => ((try dsimp only); (first | go_keep | (obtain ⟨hq, _⟩ := bcell ‹Below _ _ _›; (repeat' apply And.intro) <;> (rw [hq _ _ (by first | assumption | omega | (simp; done) | (simp; omega) | (simp; assumption))] <;> (first | assumption | (simp [*]; done))))))
        clear hK K hHeld
        have hHeld := hHeld43; clear hHeld43
        try simp only [Act.put, List.setIfInBounds_toArray, List.set_cons_zero, List.set_cons_succ]
        refine wpAnyH_take_d (i := 4) (d := some 74) (v := ?v44) rfl rfl (by kernel_rfl) (by kernel_rfl) (by kernel_rfl) (fun _ _ _ h => h) (Or.inl ⟨by kernel_rfl, ?y44⟩) (by assumption) ?_
        case y44 => (intro w' hSw; (try dsimp only at hSw); go_simp; try with_reducible rfl)
        try simp only [Act.put, List.setIfInBounds_toArray, List.set_cons_zero, List.set_cons_succ]
        refine wpAnyH_done (by kernel_rfl) ?_ _
        refine NoPanic.normal ?_
        have b13 : Below w11.heap.size w11 w13 := (Below.drew (Below.refl _ _)).trans (hb12.trans (hb13.mono z12))
        have D13 : Hid (Below u3.heap.size u3 w13) := D11.out.trans (b13.mono D11.out.size)
        have FR13 := Lib.hid (FR11.out.below b13)
        have G13 := Lib.hid (G11.out.below b13 G11.out.lt)
        have E13 := Lib.hid (E11.below b13 E11.lt)
        have X13 := Lib.hid (X11.below b13 X11.lt)
        have Y13 := Y11.out.below b13 Y11.out.lt
        have F13 := F11.out.below b13 F11.out.lt
        have KH13 := KH3.out.below D13.out s3
        have B13 := B3.out.trans (D13.out.mono B3.out.size)
        clear hHeld hb12 hb13 hE3 hg3 b13 X11 E11 KG11 B11 D11 FR11 G11 Y11 F11 x0 x1 d0 d1 zx zk z12 z13
        have x0 := Y13.cellAt 0 _ rfl
        have x1 := Y13.cellAt 1 _ rfl
        have d0 := KH13.cellAt 0 _ rfl
        have d1 := KH13.cellAt 1 _ rfl
        have zx := Y13.lt
        have zk := KH13.lt
        go_wp2
        refine wp_region_noPanic ?_
        refine wp_region_held_drew (S := (fun w' => w'.cell? ⟨w.heap.size + 1, 0, none⟩ = some (.int .i64 m) ∧ w'.cell? ⟨w.heap.size + 1, 1, none⟩ = some (.slice B M d) ∧ w'.cell? ⟨w8.heap.size, 0, none⟩ = some (.int .i64 m) ∧ w'.cell? ⟨w8.heap.size, 1, none⟩ = some (.slice (some ⟨gB, 0, none⟩) M M))) (by kernel_rfl) ?_ (fun hHeld => ?_)
        · (try dsimp only); (first | go_keep | (obtain ⟨hq, _⟩ := bcell ‹Below _ _ _›; (repeat' apply And.intro) <;> (rw [hq _ _ (by first | assumption | omega | (simp; done) | (simp; omega) | (simp; assumption))] <;> (first | assumption | (simp [*]; done)))))
        refine wpAnyH_take_d (i := 0) (d := some 75) (v := ?v45) rfl rfl (by kernel_rfl) (by kernel_rfl) (by kernel_rfl) (fun _ _ _ h => h) (Or.inl ⟨by kernel_rfl, ?y45⟩) (by assumption) ?_
        case y45 => (intro w' hSw; (try dsimp only at hSw); go_simp; try with_reducible rfl)
        try simp only [Act.put, List.setIfInBounds_toArray, List.set_cons_zero, List.set_cons_succ]
        refine wpAnyH_take_d (i := 1) (d := some 76) (v := ?v46) rfl rfl (by kernel_rfl) (by kernel_rfl) (by kernel_rfl) (fun _ _ _ h => h) (Or.inl ⟨by kernel_rfl, ?y46⟩) (by assumption) ?_
        case y46 => (intro w' hSw; (try dsimp only at hSw); go_simp; try with_reducible rfl)
        try simp only [Act.put, List.setIfInBounds_toArray, List.set_cons_zero, List.set_cons_succ]
        refine wpAnyH_ready (rs := [2]) (by kernel_rfl) (by simp) ?_
        refine AllReadyH.cons rfl (fun K hK => ?_) AllReadyH.nil
        go_simp
        refine (ct2.out _ B13.drew).mono ?_; rintro x w14 ⟨g4, rfl, hg4, hE4, hb14⟩; have z14 := hb14.size; (try simp only [World.size_alloc, World.size_setCell, World.size_drew] at z14)
        refine hK.out _ _ ?s47 (fun hHeld47 => ?_)
        case s47 => ((try dsimp only); (first | go_keep | (obtain ⟨hq, _⟩ := bcell ‹Below _ _ _›; (repeat' apply And.intro) <;> (rw [hq _ _ (by first | assumption | omega | (simp; done) | (simp; omega) | (simp; assumption))] <;> (first | assumption | (simp [*]; done))))))
        clear hK K hHeld
        have hHeld := hHeld47; clear hHeld47
        try simp only [Act.put, List.setIfInBounds_toArray, List.set_cons_zero, List.set_cons_succ]
        refine wpAnyH_ready (rs := [3]) (by kernel_rfl) (by simp) ?_
        refine AllReadyH.cons rfl (fun K hK => ?_) AllReadyH.nil
        go_simp
        refine (ce2.out _ _ _ (F13.drew.below hb14 F13.lt) hE4).mono ?_; rintro x w15 ⟨rfl, hb15⟩; have z15 := hb15.size; (try simp only [World.size_alloc, World.size_setCell, World.size_drew] at z15)
        refine hK.out _ _ ?s48 (fun hHeld48 => ?_)
        case s48 => ((try dsimp only); (first | go_keep | (obtain ⟨hq, _⟩ := bcell ‹Below _ _ _›; (repeat' apply And.intro) <;> (rw [hq _ _ (by first | assumption | omega | (simp; done) | (simp; omega) | (simp; assumption))] <;> (first | assumption | (simp [*]; done))))))
        clear hK K hHeld
        have hHeld := hHeld48; clear hHeld48
        try simp only [Act.put, List.setIfInBounds_toArray, List.set_cons_zero, List.set_cons_succ]
        refine wpAnyH_take_d (i := 4) (d := some 79) (v := ?v49) rfl rfl (by kernel_rfl) (by kernel_rfl) (by kernel_rfl) (fun _ _ _ h => h) (Or.inl ⟨by kernel_rfl, ?y49⟩) (by assumption) ?_
        case y49 => (intro w' hSw; (try dsimp only at hSw); go_simp; try with_reducible rfl)
        try simp only [Act.put, List.setIfInBounds_toArray, List.set_cons_zero, List.set_cons_succ]
        refine wpAnyH_done (by kernel_rfl) ?_ _
        refine NoPanic.normal ?_
        have b15 : Below w13.heap.size w13 w15 := (Below.drew (Below.refl _ _)).trans (hb14.trans (hb15.mono z14))
        have D15 : Hid (Below u3.heap.size u3 w15) := D13.out.trans (b15.mono D13.out.size)
        have FR15 := Lib.hid (FR13.out.below b15)
        have G15 := Lib.hid (G13.out.below b15 G13.out.lt)
        have E15 := Lib.hid (E13.out.below b15 E13.out.lt)
        have F15 := Lib.hid (F13.below b15 F13.lt)
        have X15 := Lib.hid (X13.out.below b15 X13.out.lt)
        have Y15 := Lib.hid (Y13.below b15 Y13.lt)
        clear hHeld hb14 hb15 hE4 hg4 b15 Y13 X13 E13 F13 KH13 B13 D13 FR13 G13 x0 x1 d0 d1 zx zk z14 z15
        have x0 := X15.out.cellAt 0 _ rfl
        have x1 := X15.out.cellAt 1 _ rfl
        go_wp2_with fail
        refine (cm1.out w15 gA (Nat.le_of_lt E15.out.lt) (blkE_fr E15.out)).mono ?_
        rintro x w16 ⟨rfl, ho16, hb16, _⟩
        have D16 : Hid (Below u3.heap.size u3 w16) := D15.out.trans (hb16.mono HgA.out)
        have FR16 := Lib.hid (FR15.out.away ho16 HA8.out)
        have keep16 : ∀ g, g < w15.heap.size → g ≠ gA → w16.heap[g]? = w15.heap[g]? := fun g h1 h2 => ho16.block g h1 (fun o e9 => by injection e9 with e9; injection e9 with e9; omega)
        have hX0 := X0.out.lt
        have G16 : Hid (Blk w16 w10.heap.size 28 #[.int .i64 N, .slice A5 M0 c5]) := (keep16 _ G15.out.lt (by have := HA8.out; have := H810.out; omega)).trans G15.out
        have F16 : Hid (Blk w16 gB 40 (cE hs).toArray) := (keep16 _ F15.out.lt (by have := HAB.out; omega)).trans F15.out
        have Y16 : Hid (Blk w16 w8.heap.size 28 #[.int .i64 m, .slice (some ⟨gB, 0, none⟩) M M]) := (keep16 _ Y15.out.lt (by have := HAY.out; omega)).trans Y15.out
        clear ho16 hb16 keep16 hX0 D15 FR15 G15 E15 F15 X15 Y15 x0 x1
        have x0 := Y16.out.cellAt 0 _ rfl
        have x1 := Y16.out.cellAt 1 _ rfl
        go_wp2_with fail
        refine (cm2.out w16 gB (Nat.le_of_lt F16.out.lt) (blkE_fr F16.out)).mono ?_
        rintro x w17 ⟨rfl, ho17, hb17, _⟩
        have D17 : Hid (Below u3.heap.size u3 w17) := D16.out.trans (hb17.mono (by have := HgA.out; have := HAB.out; omega))
        have FR17 := Lib.hid (FR16.out.away ho17 HB8.out)
        have G17 : Hid (Blk w17 w10.heap.size 28 #[.int .i64 N, .slice A5 M0 c5]) := (ho17.block _ G16.out.lt (fun o e9 => by injection e9 with e9; injection e9 with e9; have := HB8.out; have := H810.out; omega)).trans G16.out
        clear ho17 hb17 D16 FR16 G16 F16 Y16 x0 x1
        have x50 := G17.out.cellAt 0 _ rfl
        have x51 := G17.out.cellAt 1 _ rfl
        have y50 := (X0.out.below D17.out X0.out.lt).cellAt 0 _ rfl
        have y51 := (X0.out.below D17.out X0.out.lt).cellAt 1 _ rfl
        go_wp2_with fail
        refine (cq.out _ _ _ _ _ FR17.out.rd (W0.out.below D17.out)).mono ?_
        rintro x w18 ⟨rfl, hb18⟩
        have D18 : Hid (Below u3.heap.size u3 w18) := D17.out.trans (hb18.mono D17.out.size)
        have FR18 := Lib.hid (FR17.out.below hb18)
        have G18 : Hid (Blk w18 w10.heap.size 28 #[.int .i64 N, .slice A5 M0 c5]) := G17.out.below hb18 G17.out.lt
        have x60 := G18.out.cellAt 0 _ rfl
        have x61 := G18.out.cellAt 1 _ rfl
        have zg18 := G18.out.lt
        have hn18 : u8.heap.size ≤ w18.heap.size := by have := H810.out; omega
        have hu38 : u3.heap.size ≤ u8.heap.size := by have := HgA.out; have := HA8.out; omega
        clear D17 FR17 G17 hb18 x50 x51 y50 y51
        go_wp2_with fail
        refine (ck.out _ _ _ _ _ hn18 FR18.out U10.out).mono ?_
        rintro x w19 ⟨rfl, ho19, hb19, hF19⟩
        have D19 : Hid (Below u3.heap.size u3 w19) := D18.out.trans (hb19.mono hu38)
        have FR19 := Lib.hid hF19
        have G19 : Hid (Blk w19 w10.heap.size 28 #[.int .i64 N, .slice A5 M0 c5]) := (ho19 _ (Nat.le_refl _) zg18).trans G18.out
        have x50 := G19.out.cellAt 0 _ rfl
        have x51 := G19.out.cellAt 1 _ rfl
        clear ho19 hb19 hF19 D18 FR18 G18 x60 x61 zg18 hn18 hu38
        go_wp2_with fail
        refine (ch.out _ _ _ FR19.out.rd).mono ?_
        rintro x w20 ⟨rfl, hb20⟩
        have D20 : Hid (Below u3.heap.size u3 w20) := D19.out.trans (hb20.mono D19.out.size)
        have FR20 := Lib.hid (FR19.out.below hb20)
        have G20 : Hid (Blk w20 w10.heap.size 28 #[.int .i64 N, .slice A5 M0 c5]) := G19.out.below hb20 G19.out.lt
        have KG20 := Lib.hid (KG3.out.below D20.out KG3.out.lt)
        have KH20 := Lib.hid (KH3.out.below D20.out s3)
        have B20 : Below w.heap.size w w20 := B3.out.trans (D20.out.mono B3.out.size)
        have s2 := KH20.out.lt
        clear hb20 D19 FR19 G19 x50 x51
        have k00 := KG20.out.cellAt 0 _ rfl
        have k01 := KG20.out.cellAt 1 _ rfl
        have k10 := KH20.out.cellAt 0 _ rfl
        have k11 := KH20.out.cellAt 1 _ rfl
        go_wp2
        go_cut [23, 24] (fun sg sv wx => ∃ g A3 c3, sg = .pointer (some ⟨g, 0, none⟩) ∧ sv = .int .i64 v9 ∧ Hid (Blk wx g 28 #[.int .i64 N, .slice A3 M0 c3]) ∧ Hid (RdE wx A3 rs) ∧ Hid (Below w20.heap.size w20 wx))
        case first =>
          have b0 : Below w20.heap.size w20 w20.drew := Below.drew (Below.refl _ _)
          refine wp_region_noPanic ?_
          refine wp_region_held_drew (S := (fun w' => w'.cell? ⟨w.heap.size, 0, none⟩ = some (.int .i64 n) ∧ w'.cell? ⟨w.heap.size, 1, none⟩ = some (.slice A L c) ∧ w'.cell? ⟨w.heap.size + 1, 0, none⟩ = some (.int .i64 m) ∧ w'.cell? ⟨w.heap.size + 1, 1, none⟩ = some (.slice B M d))) (by kernel_rfl) ?_ (fun hHeld => ?_)
          · (try dsimp only); (first | exact hS | exact ⟨k00, k01, k10, k11⟩ | assumption | (first | go_keep | (obtain ⟨hq, _⟩ := bcell ‹Below _ _ _›; (repeat' apply And.intro) <;> (rw [hq _ _ (by first | assumption | omega | (simp; done) | (simp; omega) | (simp; assumption))] <;> (first | assumption | (simp [*]; done))))))
          refine wpAnyH_take_d (i := 0) (d := some 111) (v := ?v50) rfl rfl (by kernel_rfl) (by kernel_rfl) (by kernel_rfl) (fun _ _ _ h => h) (Or.inl ⟨by kernel_rfl, ?y50⟩) (by assumption) ?_
          case y50 => (intro w' hSw; (try dsimp only at hSw); go_simp; try with_reducible rfl)
          try simp only [Act.put, List.setIfInBounds_toArray, List.set_cons_zero, List.set_cons_succ]
          refine wpAnyH_take_d (i := 2) (d := some 113) (v := ?v51) rfl rfl (by kernel_rfl) (by kernel_rfl) (by kernel_rfl) (fun _ _ _ h => h) (Or.inl ⟨by kernel_rfl, ?y51⟩) (by assumption) ?_
          case y51 => (intro w' hSw; (try dsimp only at hSw); go_simp; try with_reducible rfl)
          try simp only [Act.put, List.setIfInBounds_toArray, List.set_cons_zero, List.set_cons_succ]
          refine wpAnyH_take_d (i := 3) (d := some 114) (v := ?v52) rfl rfl (by kernel_rfl) (by kernel_rfl) (by kernel_rfl) (fun _ _ _ h => h) (Or.inl ⟨by kernel_rfl, ?y52⟩) (by assumption) ?_
          case y52 => (intro w' hSw; (try dsimp only at hSw); go_simp; try with_reducible rfl)
          try simp only [Act.put, List.setIfInBounds_toArray, List.set_cons_zero, List.set_cons_succ]
          refine wpAnyH_take_d (i := 4) (d := some 115) (v := ?v53) rfl rfl (by kernel_rfl) (by kernel_rfl) (by kernel_rfl) (fun _ _ _ h => h) (Or.inl ⟨by kernel_rfl, ?y53⟩) (by assumption) ?_
          case y53 => (intro w' hSw; (try dsimp only at hSw); go_simp; try with_reducible rfl)
          try simp only [Act.put, List.setIfInBounds_toArray, List.set_cons_zero, List.set_cons_succ]
          refine wpAnyH_take_d (i := 6) (d := some 117) (v := ?v54) rfl rfl (by kernel_rfl) (by kernel_rfl) (by kernel_rfl) (fun _ _ _ h => h) (Or.inl ⟨by kernel_rfl, ?y54⟩) (by assumption) ?_
          case y54 => (intro w' hSw; (try dsimp only at hSw); go_simp; try with_reducible rfl)
          try simp only [Act.put, List.setIfInBounds_toArray, List.set_cons_zero, List.set_cons_succ]
          refine wpAnyH_take_d (i := 7) (d := some 118) (v := ?v55) rfl rfl (by kernel_rfl) (by kernel_rfl) (by kernel_rfl) (fun _ _ _ h => h) (Or.inl ⟨by kernel_rfl, ?y55⟩) (by assumption) ?_
          case y55 => (intro w' hSw; (try dsimp only at hSw); go_simp; try with_reducible rfl)
          try simp only [Act.put, List.setIfInBounds_toArray, List.set_cons_zero, List.set_cons_succ]
          refine wpAnyH_ready (rs := [1, 12]) (by kernel_rfl) (by simp) ?_
          refine AllReadyH.cons rfl (fun K hK => ?_) (AllReadyH.cons rfl (fun K hK => ?_) (AllReadyH.nil))
          · go_simp
            refine (ct1.out _ (B20.trans (b0.mono B20.size))).mono ?_
            rintro xx v1 ⟨g1, rfl, hg1, hE1, hb1⟩
            have dd1 : Below w20.heap.size w20 v1 := b0.trans (hb1.mono b0.size)
            have hS : v1.cell? ⟨w.heap.size, 0, none⟩ = some (.int .i64 n) ∧ v1.cell? ⟨w.heap.size, 1, none⟩ = some (.slice A L c) ∧ v1.cell? ⟨w.heap.size + 1, 0, none⟩ = some (.int .i64 m) ∧ v1.cell? ⟨w.heap.size + 1, 1, none⟩ = some (.slice B M d) := ⟨((bcell dd1).1 _ _ (by omega)).trans k00, ((bcell dd1).1 _ _ (by omega)).trans k01, ((bcell dd1).1 _ _ s2).trans k10, ((bcell dd1).1 _ _ s2).trans k11⟩
            refine hK.out _ _ ?s56 (fun hHeld56 => ?_)
            case s56 => ((try dsimp only); (first | exact hS | exact ⟨k00, k01, k10, k11⟩ | assumption | (first | go_keep | (obtain ⟨hq, _⟩ := bcell ‹Below _ _ _›; (repeat' apply And.intro) <;> (rw [hq _ _ (by first | assumption | omega | (simp; done) | (simp; omega) | (simp; assumption))] <;> (first | assumption | (simp [*]; done)))))))
            clear hK K hHeld
            have hHeld := hHeld56; clear hHeld56
            try simp only [Act.put, List.setIfInBounds_toArray, List.set_cons_zero, List.set_cons_succ]
            refine wpAnyH_ready (rs := [5, 12]) (by kernel_rfl) (by simp) ?_
            refine AllReadyH.cons rfl (fun K hK => ?_) (AllReadyH.cons rfl (fun K hK => ?_) (AllReadyH.nil))
            · go_simp
              refine (ct2.out _ (B20.trans (dd1.mono B20.size))).mono ?_
              rintro xx v2 ⟨g2, rfl, hg2, hE2, hb2⟩
              have dd2 : Below w20.heap.size w20 v2 := dd1.trans (hb2.mono dd1.size)
              have e21 := hE1.below hb2 hE1.lt
              have hS : v2.cell? ⟨w.heap.size, 0, none⟩ = some (.int .i64 n) ∧ v2.cell? ⟨w.heap.size, 1, none⟩ = some (.slice A L c) ∧ v2.cell? ⟨w.heap.size + 1, 0, none⟩ = some (.int .i64 m) ∧ v2.cell? ⟨w.heap.size + 1, 1, none⟩ = some (.slice B M d) := ⟨((bcell dd2).1 _ _ (by omega)).trans k00, ((bcell dd2).1 _ _ (by omega)).trans k01, ((bcell dd2).1 _ _ s2).trans k10, ((bcell dd2).1 _ _ s2).trans k11⟩
              refine hK.out _ _ ?s57 (fun hHeld57 => ?_)
              case s57 => ((try dsimp only); (first | exact hS | exact ⟨k00, k01, k10, k11⟩ | assumption | (first | go_keep | (obtain ⟨hq, _⟩ := bcell ‹Below _ _ _›; (repeat' apply And.intro) <;> (rw [hq _ _ (by first | assumption | omega | (simp; done) | (simp; omega) | (simp; assumption))] <;> (first | assumption | (simp [*]; done)))))))
              clear hK K hHeld
              have hHeld := hHeld57; clear hHeld57
              try simp only [Act.put, List.setIfInBounds_toArray, List.set_cons_zero, List.set_cons_succ]
              refine wpAnyH_ready (rs := [8, 12]) (by kernel_rfl) (by simp) ?_
              refine AllReadyH.cons rfl (fun K hK => ?_) (AllReadyH.cons rfl (fun K hK => ?_) (AllReadyH.nil))
              · go_simp
                refine (ci.out v2 g1 g2 e21 hE2).mono ?_
                rintro xx v3 ⟨hq, hb3⟩
                obtain ⟨A3, c3, rfl, hF⟩ := hq.open_ HM0.out
                have dd3 : Below w20.heap.size w20 v3 := dd2.trans (hb3.mono dd2.size)
                have hS : v3.cell? ⟨w.heap.size, 0, none⟩ = some (.int .i64 n) ∧ v3.cell? ⟨w.heap.size, 1, none⟩ = some (.slice A L c) ∧ v3.cell? ⟨w.heap.size + 1, 0, none⟩ = some (.int .i64 m) ∧ v3.cell? ⟨w.heap.size + 1, 1, none⟩ = some (.slice B M d) := ⟨((bcell dd3).1 _ _ (by omega)).trans k00, ((bcell dd3).1 _ _ (by omega)).trans k01, ((bcell dd3).1 _ _ s2).trans k10, ((bcell dd3).1 _ _ s2).trans k11⟩
                refine hK.out _ _ ?s58 (fun hHeld58 => ?_)
                case s58 => ((try dsimp only); (first | exact hS | exact ⟨k00, k01, k10, k11⟩ | assumption | (first | go_keep | (obtain ⟨hq, _⟩ := bcell ‹Below _ _ _›; (repeat' apply And.intro) <;> (rw [hq _ _ (by first | assumption | omega | (simp; done) | (simp; omega) | (simp; assumption))] <;> (first | assumption | (simp [*]; done)))))))
                clear hK K hHeld
                have hHeld := hHeld58; clear hHeld58
                try simp only [Act.put, List.setIfInBounds_toArray, List.set_cons_zero, List.set_cons_succ]
                refine wpAnyH_take_d (i := 9) (d := some 110) (v := ?v59) rfl rfl (by kernel_rfl) (by kernel_rfl) (by kernel_rfl) (fun _ _ _ h => h) (Or.inl ⟨by kernel_rfl, ?y59⟩) (by assumption) ?_
                case y59 => (intro w' hSw; (try dsimp only at hSw); go_simp; try with_reducible rfl)
                try simp only [Act.put, List.setIfInBounds_toArray, List.set_cons_zero, List.set_cons_succ]
                refine wpAnyH_take_d (i := 10) (d := some 120) (v := ?v60) rfl rfl (by kernel_rfl) (by kernel_rfl) (by kernel_rfl) (fun _ _ _ h => h) (Or.inl ⟨by kernel_rfl, ?y60⟩) (by assumption) ?_
                case y60 => (intro w' hSw; (try dsimp only at hSw); go_simp; try with_reducible rfl)
                try simp only [Act.put, List.setIfInBounds_toArray, List.set_cons_zero, List.set_cons_succ]
                refine wpAnyH_take_d (i := 11) (d := some 121) (v := ?v61) rfl rfl (by kernel_rfl) (by kernel_rfl) (by kernel_rfl) (fun _ _ _ h => h) (Or.inl ⟨by kernel_rfl, ?y61⟩) (by assumption) ?_
                case y61 => (intro w' hSw; (try dsimp only at hSw); go_simp; try with_reducible rfl)
                try simp only [Act.put, List.setIfInBounds_toArray, List.set_cons_zero, List.set_cons_succ]
                refine wpAnyH_ready (rs := [12]) (by kernel_rfl) (by simp) ?_
                refine AllReadyH.cons rfl (fun K hK => ?_) AllReadyH.nil
                go_simp
                have dd4 : Below w20.heap.size w20 (v3.alloc (.cells #[.int .i64 0, .slice none 0 0] 28)) := dd3.alloc dd3.size _
                have hz4 : Blk (v3.alloc (.cells #[.int .i64 0, .slice none 0 0] 28)) v3.heap.size 28 #[.int .i64 0, .slice none 0 0] := Blk.new v3 _ _
                have e41 := e21.alloc (.cells #[.int .i64 0, .slice none 0 0] 28)
                have e42 := hE2.alloc (.cells #[.int .i64 0, .slice none 0 0] 28)
                have hS : (v3.alloc (.cells #[.int .i64 0, .slice none 0 0] 28)).cell? ⟨w.heap.size, 0, none⟩ = some (.int .i64 n) ∧ (v3.alloc (.cells #[.int .i64 0, .slice none 0 0] 28)).cell? ⟨w.heap.size, 1, none⟩ = some (.slice A L c) ∧ (v3.alloc (.cells #[.int .i64 0, .slice none 0 0] 28)).cell? ⟨w.heap.size + 1, 0, none⟩ = some (.int .i64 m) ∧ (v3.alloc (.cells #[.int .i64 0, .slice none 0 0] 28)).cell? ⟨w.heap.size + 1, 1, none⟩ = some (.slice B M d) := ⟨((bcell dd4).1 _ _ (by omega)).trans k00, ((bcell dd4).1 _ _ (by omega)).trans k01, ((bcell dd4).1 _ _ s2).trans k10, ((bcell dd4).1 _ _ s2).trans k11⟩
                refine hK.out _ _ ?s62 (fun hHeld62 => ?_)
                case s62 => ((try dsimp only); (first | exact hS | exact ⟨k00, k01, k10, k11⟩ | assumption | (first | go_keep | (obtain ⟨hq, _⟩ := bcell ‹Below _ _ _›; (repeat' apply And.intro) <;> (rw [hq _ _ (by first | assumption | omega | (simp; done) | (simp; omega) | (simp; assumption))] <;> (first | assumption | (simp [*]; done)))))))
                clear hK K hHeld
                have hHeld := hHeld62; clear hHeld62
                try simp only [Act.put, List.setIfInBounds_toArray, List.set_cons_zero, List.set_cons_succ]
                have x0 := hz4.cellAt 0 _ rfl; have x1 : ((v3.alloc (.cells #[.int .i64 0, .slice none 0 0] 28)).setCell ⟨v3.heap.size, 0, none⟩ (.int .i64 N)).cell? ⟨v3.heap.size, 1, none⟩ = some (.slice none 0 0) := (sc_other (by simp)).trans (hz4.cellAt 1 _ rfl); have f0 := hz4.frozen 0; have f1 := hz4.frozen 1
                refine wpAnyH_ready (rs := [13]) (by kernel_rfl) (by simp) ?_
                refine AllReadyH.cons rfl (fun K hK => ?_) AllReadyH.nil
                go_simp
                have hZ : Blk (v3.alloc (.cells #[.int .i64 N, .slice A3 M0 c3] 28)) v3.heap.size 28 #[.int .i64 N, .slice A3 M0 c3] := Blk.new v3 _ _
                have cU : Below w20.heap.size w20 (v3.alloc (.cells #[.int .i64 N, .slice A3 M0 c3] 28)) := dd3.alloc dd3.size _
                have hR : RdE (v3.alloc (.cells #[.int .i64 N, .slice A3 M0 c3] 28)) A3 rs := hF.rd.below (Below.alloc (Below.refl _ _) (Nat.le_refl _) _)
                clear hS
                have hS : (v3.alloc (.cells #[.int .i64 N, .slice A3 M0 c3] 28)).cell? ⟨w.heap.size, 0, none⟩ = some (.int .i64 n) ∧ (v3.alloc (.cells #[.int .i64 N, .slice A3 M0 c3] 28)).cell? ⟨w.heap.size, 1, none⟩ = some (.slice A L c) ∧ (v3.alloc (.cells #[.int .i64 N, .slice A3 M0 c3] 28)).cell? ⟨w.heap.size + 1, 0, none⟩ = some (.int .i64 m) ∧ (v3.alloc (.cells #[.int .i64 N, .slice A3 M0 c3] 28)).cell? ⟨w.heap.size + 1, 1, none⟩ = some (.slice B M d) := ⟨((bcell cU).1 _ _ (by omega)).trans k00, ((bcell cU).1 _ _ (by omega)).trans k01, ((bcell cU).1 _ _ s2).trans k10, ((bcell cU).1 _ _ s2).trans k11⟩
                refine hK.out _ _ ?s63 (fun hHeld63 => ?_)
                case s63 => ((try dsimp only); (first | exact hS | exact ⟨k00, k01, k10, k11⟩ | assumption | (first | go_keep | (obtain ⟨hq, _⟩ := bcell ‹Below _ _ _›; (repeat' apply And.intro) <;> (rw [hq _ _ (by first | assumption | omega | (simp; done) | (simp; omega) | (simp; assumption))] <;> (first | assumption | (simp [*]; done)))))))
                clear hK K hHeld
                have hHeld := hHeld63; clear hHeld63
                try simp only [Act.put, List.setIfInBounds_toArray, List.set_cons_zero, List.set_cons_succ]
                have HU : Hid _ := hZ
                refine wpAnyH_take_d (i := 14) (d := some 24) (v := ?v64) rfl rfl (by kernel_rfl) (by kernel_rfl) (by kernel_rfl) (fun _ _ _ h => h) (Or.inl ⟨by kernel_rfl, ?y64⟩) (by assumption) ?_
                case y64 => (intro w' hSw; (try dsimp only at hSw); go_simp; try with_reducible rfl)
                try simp only [Act.put, List.setIfInBounds_toArray, List.set_cons_zero, List.set_cons_succ]
                refine wpAnyH_done (by kernel_rfl) ?_ _
                refine NoPanic.normal ?_
                (try go_wp2_with fail)
                go_meet
                exact ⟨_, A3, c3, rfl, rfl, Lib.hid hZ, Lib.hid hR, Lib.hid cU⟩
              · go_simp
                have dd3 : Below w20.heap.size w20 (v2.alloc (.cells #[.int .i64 0, .slice none 0 0] 28)) := dd2.alloc dd2.size _
                have hz3 : Blk (v2.alloc (.cells #[.int .i64 0, .slice none 0 0] 28)) v2.heap.size 28 #[.int .i64 0, .slice none 0 0] := Blk.new v2 _ _
                have e31 := e21.alloc (.cells #[.int .i64 0, .slice none 0 0] 28)
                have e32 := hE2.alloc (.cells #[.int .i64 0, .slice none 0 0] 28)
                have hS : (v2.alloc (.cells #[.int .i64 0, .slice none 0 0] 28)).cell? ⟨w.heap.size, 0, none⟩ = some (.int .i64 n) ∧ (v2.alloc (.cells #[.int .i64 0, .slice none 0 0] 28)).cell? ⟨w.heap.size, 1, none⟩ = some (.slice A L c) ∧ (v2.alloc (.cells #[.int .i64 0, .slice none 0 0] 28)).cell? ⟨w.heap.size + 1, 0, none⟩ = some (.int .i64 m) ∧ (v2.alloc (.cells #[.int .i64 0, .slice none 0 0] 28)).cell? ⟨w.heap.size + 1, 1, none⟩ = some (.slice B M d) := ⟨((bcell dd3).1 _ _ (by omega)).trans k00, ((bcell dd3).1 _ _ (by omega)).trans k01, ((bcell dd3).1 _ _ s2).trans k10, ((bcell dd3).1 _ _ s2).trans k11⟩
                refine hK.out _ _ ?s65 (fun hHeld65 => ?_)
                case s65 => ((try dsimp only); (first | exact hS | exact ⟨k00, k01, k10, k11⟩ | assumption | (first | go_keep | (obtain ⟨hq, _⟩ := bcell ‹Below _ _ _›; (repeat' apply And.intro) <;> (rw [hq _ _ (by first | assumption | omega | (simp; done) | (simp; omega) | (simp; assumption))] <;> (first | assumption | (simp [*]; done)))))))
                clear hK K hHeld
                have hHeld := hHeld65; clear hHeld65
                try simp only [Act.put, List.setIfInBounds_toArray, List.set_cons_zero, List.set_cons_succ]
                refine wpAnyH_ready (rs := [8]) (by kernel_rfl) (by simp) ?_
                refine AllReadyH.cons rfl (fun K hK => ?_) AllReadyH.nil
                go_simp
                refine (ci.out (v2.alloc (.cells #[.int .i64 0, .slice none 0 0] 28)) g1 g2 e31 e32).mono ?_
                rintro xx v4 ⟨hq, hb4⟩
                obtain ⟨A3, c3, rfl, hF⟩ := hq.open_ HM0.out
                have dd4 : Below w20.heap.size w20 v4 := dd3.trans (hb4.mono dd3.size)
                have hlz := hz3.lt
                have hz4 := hz3.below hb4 hz3.lt
                have hS : v4.cell? ⟨w.heap.size, 0, none⟩ = some (.int .i64 n) ∧ v4.cell? ⟨w.heap.size, 1, none⟩ = some (.slice A L c) ∧ v4.cell? ⟨w.heap.size + 1, 0, none⟩ = some (.int .i64 m) ∧ v4.cell? ⟨w.heap.size + 1, 1, none⟩ = some (.slice B M d) := ⟨((bcell dd4).1 _ _ (by omega)).trans k00, ((bcell dd4).1 _ _ (by omega)).trans k01, ((bcell dd4).1 _ _ s2).trans k10, ((bcell dd4).1 _ _ s2).trans k11⟩
                refine hK.out _ _ ?s66 (fun hHeld66 => ?_)
                case s66 => ((try dsimp only); (first | exact hS | exact ⟨k00, k01, k10, k11⟩ | assumption | (first | go_keep | (obtain ⟨hq, _⟩ := bcell ‹Below _ _ _›; (repeat' apply And.intro) <;> (rw [hq _ _ (by first | assumption | omega | (simp; done) | (simp; omega) | (simp; assumption))] <;> (first | assumption | (simp [*]; done)))))))
                clear hK K hHeld
                have hHeld := hHeld66; clear hHeld66
                try simp only [Act.put, List.setIfInBounds_toArray, List.set_cons_zero, List.set_cons_succ]
                refine wpAnyH_take_d (i := 9) (d := some 110) (v := ?v67) rfl rfl (by kernel_rfl) (by kernel_rfl) (by kernel_rfl) (fun _ _ _ h => h) (Or.inl ⟨by kernel_rfl, ?y67⟩) (by assumption) ?_
                case y67 => (intro w' hSw; (try dsimp only at hSw); go_simp; try with_reducible rfl)
                try simp only [Act.put, List.setIfInBounds_toArray, List.set_cons_zero, List.set_cons_succ]
                refine wpAnyH_take_d (i := 10) (d := some 120) (v := ?v68) rfl rfl (by kernel_rfl) (by kernel_rfl) (by kernel_rfl) (fun _ _ _ h => h) (Or.inl ⟨by kernel_rfl, ?y68⟩) (by assumption) ?_
                case y68 => (intro w' hSw; (try dsimp only at hSw); go_simp; try with_reducible rfl)
                try simp only [Act.put, List.setIfInBounds_toArray, List.set_cons_zero, List.set_cons_succ]
                refine wpAnyH_take_d (i := 11) (d := some 121) (v := ?v69) rfl rfl (by kernel_rfl) (by kernel_rfl) (by kernel_rfl) (fun _ _ _ h => h) (Or.inl ⟨by kernel_rfl, ?y69⟩) (by assumption) ?_
                case y69 => (intro w' hSw; (try dsimp only at hSw); go_simp; try with_reducible rfl)
                try simp only [Act.put, List.setIfInBounds_toArray, List.set_cons_zero, List.set_cons_succ]
                have x0 := hz4.cellAt 0 _ rfl; have x1 : (v4.setCell ⟨v2.heap.size, 0, none⟩ (.int .i64 N)).cell? ⟨v2.heap.size, 1, none⟩ = some (.slice none 0 0) := (sc_other (by simp)).trans (hz4.cellAt 1 _ rfl); have f0 := hz4.frozen 0; have f1 := hz4.frozen 1
                refine wpAnyH_ready (rs := [13]) (by kernel_rfl) (by simp) ?_
                refine AllReadyH.cons rfl (fun K hK => ?_) AllReadyH.nil
                go_simp
                have hZ : Blk ((v4.setCell ⟨v2.heap.size, 0, none⟩ (.int .i64 N)).setCell ⟨v2.heap.size, 1, none⟩ (.slice A3 M0 c3)) v2.heap.size 28 #[.int .i64 N, .slice A3 M0 c3] := (hz4.set_ 0 (.int .i64 N)).set_ 1 (.slice A3 M0 c3)
                have cU : Below w20.heap.size w20 ((v4.setCell ⟨v2.heap.size, 0, none⟩ (.int .i64 N)).setCell ⟨v2.heap.size, 1, none⟩ (.slice A3 M0 c3)) := (dd4.setCell (by show w20.heap.size ≤ v2.heap.size; have := b0.size; have hh := dd4.size; (try simp at this); (try simp at hh); first | exact Nat.le_refl _ | omega | exact dd1.size | exact dd2.size | exact dd3.size) _).setCell (by show w20.heap.size ≤ v2.heap.size; have := b0.size; have hh := dd4.size; (try simp at this); (try simp at hh); first | exact Nat.le_refl _ | omega | exact dd1.size | exact dd2.size | exact dd3.size) _
                have hR : RdE ((v4.setCell ⟨v2.heap.size, 0, none⟩ (.int .i64 N)).setCell ⟨v2.heap.size, 1, none⟩ (.slice A3 M0 c3)) A3 rs := (hF.away (((Only.refl _ _).set 0 _).set 1 _ : Only (some ⟨v2.heap.size, 0, none⟩) v4 _) hlz).rd
                clear hS
                have hS : ((v4.setCell ⟨v2.heap.size, 0, none⟩ (.int .i64 N)).setCell ⟨v2.heap.size, 1, none⟩ (.slice A3 M0 c3)).cell? ⟨w.heap.size, 0, none⟩ = some (.int .i64 n) ∧ ((v4.setCell ⟨v2.heap.size, 0, none⟩ (.int .i64 N)).setCell ⟨v2.heap.size, 1, none⟩ (.slice A3 M0 c3)).cell? ⟨w.heap.size, 1, none⟩ = some (.slice A L c) ∧ ((v4.setCell ⟨v2.heap.size, 0, none⟩ (.int .i64 N)).setCell ⟨v2.heap.size, 1, none⟩ (.slice A3 M0 c3)).cell? ⟨w.heap.size + 1, 0, none⟩ = some (.int .i64 m) ∧ ((v4.setCell ⟨v2.heap.size, 0, none⟩ (.int .i64 N)).setCell ⟨v2.heap.size, 1, none⟩ (.slice A3 M0 c3)).cell? ⟨w.heap.size + 1, 1, none⟩ = some (.slice B M d) := ⟨((bcell cU).1 _ _ (by omega)).trans k00, ((bcell cU).1 _ _ (by omega)).trans k01, ((bcell cU).1 _ _ s2).trans k10, ((bcell cU).1 _ _ s2).trans k11⟩
                refine hK.out _ _ ?s70 (fun hHeld70 => ?_)
                case s70 => ((try dsimp only); (first | exact hS | exact ⟨k00, k01, k10, k11⟩ | assumption | (first | go_keep | (obtain ⟨hq, _⟩ := bcell ‹Below _ _ _›; (repeat' apply And.intro) <;> (rw [hq _ _ (by first | assumption | omega | (simp; done) | (simp; omega) | (simp; assumption))] <;> (first | assumption | (simp [*]; done)))))))
                clear hK K hHeld
                have hHeld := hHeld70; clear hHeld70
                try simp only [Act.put, List.setIfInBounds_toArray, List.set_cons_zero, List.set_cons_succ]
                have HU : Hid _ := hZ
                refine wpAnyH_take_d (i := 14) (d := some 24) (v := ?v71) rfl rfl (by kernel_rfl) (by kernel_rfl) (by kernel_rfl) (fun _ _ _ h => h) (Or.inl ⟨by kernel_rfl, ?y71⟩) (by assumption) ?_
                case y71 => (intro w' hSw; (try dsimp only at hSw); go_simp; try with_reducible rfl)
                try simp only [Act.put, List.setIfInBounds_toArray, List.set_cons_zero, List.set_cons_succ]
                refine wpAnyH_done (by kernel_rfl) ?_ _
                refine NoPanic.normal ?_
                (try go_wp2_with fail)
                go_meet
                exact ⟨_, A3, c3, rfl, rfl, Lib.hid hZ, Lib.hid hR, Lib.hid cU⟩
            · go_simp
              have dd2 : Below w20.heap.size w20 (v1.alloc (.cells #[.int .i64 0, .slice none 0 0] 28)) := dd1.alloc dd1.size _
              have hz2 : Blk (v1.alloc (.cells #[.int .i64 0, .slice none 0 0] 28)) v1.heap.size 28 #[.int .i64 0, .slice none 0 0] := Blk.new v1 _ _
              have e21 := hE1.alloc (.cells #[.int .i64 0, .slice none 0 0] 28)
              have hS : (v1.alloc (.cells #[.int .i64 0, .slice none 0 0] 28)).cell? ⟨w.heap.size, 0, none⟩ = some (.int .i64 n) ∧ (v1.alloc (.cells #[.int .i64 0, .slice none 0 0] 28)).cell? ⟨w.heap.size, 1, none⟩ = some (.slice A L c) ∧ (v1.alloc (.cells #[.int .i64 0, .slice none 0 0] 28)).cell? ⟨w.heap.size + 1, 0, none⟩ = some (.int .i64 m) ∧ (v1.alloc (.cells #[.int .i64 0, .slice none 0 0] 28)).cell? ⟨w.heap.size + 1, 1, none⟩ = some (.slice B M d) := ⟨((bcell dd2).1 _ _ (by omega)).trans k00, ((bcell dd2).1 _ _ (by omega)).trans k01, ((bcell dd2).1 _ _ s2).trans k10, ((bcell dd2).1 _ _ s2).trans k11⟩
              refine hK.out _ _ ?s72 (fun hHeld72 => ?_)
              case s72 => ((try dsimp only); (first | exact hS | exact ⟨k00, k01, k10, k11⟩ | assumption | (first | go_keep | (obtain ⟨hq, _⟩ := bcell ‹Below _ _ _›; (repeat' apply And.intro) <;> (rw [hq _ _ (by first | assumption | omega | (simp; done) | (simp; omega) | (simp; assumption))] <;> (first | assumption | (simp [*]; done)))))))
              clear hK K hHeld
              have hHeld := hHeld72; clear hHeld72
              try simp only [Act.put, List.setIfInBounds_toArray, List.set_cons_zero, List.set_cons_succ]
              refine wpAnyH_ready (rs := [5]) (by kernel_rfl) (by simp) ?_
              refine AllReadyH.cons rfl (fun K hK => ?_) AllReadyH.nil
              go_simp
              refine (ct2.out _ (B20.trans (dd2.mono B20.size))).mono ?_
              rintro xx v3 ⟨g2, rfl, hg2, hE2, hb3⟩
              have dd3 : Below w20.heap.size w20 v3 := dd2.trans (hb3.mono dd2.size)
              have e31 := e21.below hb3 e21.lt
              have hz3 := hz2.below hb3 hz2.lt
              have hS : v3.cell? ⟨w.heap.size, 0, none⟩ = some (.int .i64 n) ∧ v3.cell? ⟨w.heap.size, 1, none⟩ = some (.slice A L c) ∧ v3.cell? ⟨w.heap.size + 1, 0, none⟩ = some (.int .i64 m) ∧ v3.cell? ⟨w.heap.size + 1, 1, none⟩ = some (.slice B M d) := ⟨((bcell dd3).1 _ _ (by omega)).trans k00, ((bcell dd3).1 _ _ (by omega)).trans k01, ((bcell dd3).1 _ _ s2).trans k10, ((bcell dd3).1 _ _ s2).trans k11⟩
              refine hK.out _ _ ?s73 (fun hHeld73 => ?_)
              case s73 => ((try dsimp only); (first | exact hS | exact ⟨k00, k01, k10, k11⟩ | assumption | (first | go_keep | (obtain ⟨hq, _⟩ := bcell ‹Below _ _ _›; (repeat' apply And.intro) <;> (rw [hq _ _ (by first | assumption | omega | (simp; done) | (simp; omega) | (simp; assumption))] <;> (first | assumption | (simp [*]; done)))))))
              clear hK K hHeld
              have hHeld := hHeld73; clear hHeld73
              try simp only [Act.put, List.setIfInBounds_toArray, List.set_cons_zero, List.set_cons_succ]
              refine wpAnyH_ready (rs := [8]) (by kernel_rfl) (by simp) ?_
              refine AllReadyH.cons rfl (fun K hK => ?_) AllReadyH.nil
              go_simp
              refine (ci.out v3 g1 g2 e31 hE2).mono ?_
              rintro xx v4 ⟨hq, hb4⟩
              obtain ⟨A3, c3, rfl, hF⟩ := hq.open_ HM0.out
              have dd4 : Below w20.heap.size w20 v4 := dd3.trans (hb4.mono dd3.size)
              have hlz := hz3.lt
              have hz4 := hz3.below hb4 hz3.lt
              have hS : v4.cell? ⟨w.heap.size, 0, none⟩ = some (.int .i64 n) ∧ v4.cell? ⟨w.heap.size, 1, none⟩ = some (.slice A L c) ∧ v4.cell? ⟨w.heap.size + 1, 0, none⟩ = some (.int .i64 m) ∧ v4.cell? ⟨w.heap.size + 1, 1, none⟩ = some (.slice B M d) := ⟨((bcell dd4).1 _ _ (by omega)).trans k00, ((bcell dd4).1 _ _ (by omega)).trans k01, ((bcell dd4).1 _ _ s2).trans k10, ((bcell dd4).1 _ _ s2).trans k11⟩
              refine hK.out _ _ ?s74 (fun hHeld74 => ?_)
              case s74 => ((try dsimp only); (first | exact hS | exact ⟨k00, k01, k10, k11⟩ | assumption | (first | go_keep | (obtain ⟨hq, _⟩ := bcell ‹Below _ _ _›; (repeat' apply And.intro) <;> (rw [hq _ _ (by first | assumption | omega | (simp; done) | (simp; omega) | (simp; assumption))] <;> (first | assumption | (simp [*]; done)))))))
              clear hK K hHeld
              have hHeld := hHeld74; clear hHeld74
              try simp only [Act.put, List.setIfInBounds_toArray, List.set_cons_zero, List.set_cons_succ]
              refine wpAnyH_take_d (i := 9) (d := some 110) (v := ?v75) rfl rfl (by kernel_rfl) (by kernel_rfl) (by kernel_rfl) (fun _ _ _ h => h) (Or.inl ⟨by kernel_rfl, ?y75⟩) (by assumption) ?_
              case y75 => (intro w' hSw; (try dsimp only at hSw); go_simp; try with_reducible rfl)
              try simp only [Act.put, List.setIfInBounds_toArray, List.set_cons_zero, List.set_cons_succ]
              refine wpAnyH_take_d (i := 10) (d := some 120) (v := ?v76) rfl rfl (by kernel_rfl) (by kernel_rfl) (by kernel_rfl) (fun _ _ _ h => h) (Or.inl ⟨by kernel_rfl, ?y76⟩) (by assumption) ?_
              case y76 => (intro w' hSw; (try dsimp only at hSw); go_simp; try with_reducible rfl)
              try simp only [Act.put, List.setIfInBounds_toArray, List.set_cons_zero, List.set_cons_succ]
              refine wpAnyH_take_d (i := 11) (d := some 121) (v := ?v77) rfl rfl (by kernel_rfl) (by kernel_rfl) (by kernel_rfl) (fun _ _ _ h => h) (Or.inl ⟨by kernel_rfl, ?y77⟩) (by assumption) ?_
              case y77 => (intro w' hSw; (try dsimp only at hSw); go_simp; try with_reducible rfl)
              try simp only [Act.put, List.setIfInBounds_toArray, List.set_cons_zero, List.set_cons_succ]
              have x0 := hz4.cellAt 0 _ rfl; have x1 : (v4.setCell ⟨v1.heap.size, 0, none⟩ (.int .i64 N)).cell? ⟨v1.heap.size, 1, none⟩ = some (.slice none 0 0) := (sc_other (by simp)).trans (hz4.cellAt 1 _ rfl); have f0 := hz4.frozen 0; have f1 := hz4.frozen 1
              refine wpAnyH_ready (rs := [13]) (by kernel_rfl) (by simp) ?_
              refine AllReadyH.cons rfl (fun K hK => ?_) AllReadyH.nil
              go_simp
              have hZ : Blk ((v4.setCell ⟨v1.heap.size, 0, none⟩ (.int .i64 N)).setCell ⟨v1.heap.size, 1, none⟩ (.slice A3 M0 c3)) v1.heap.size 28 #[.int .i64 N, .slice A3 M0 c3] := (hz4.set_ 0 (.int .i64 N)).set_ 1 (.slice A3 M0 c3)
              have cU : Below w20.heap.size w20 ((v4.setCell ⟨v1.heap.size, 0, none⟩ (.int .i64 N)).setCell ⟨v1.heap.size, 1, none⟩ (.slice A3 M0 c3)) := (dd4.setCell (by show w20.heap.size ≤ v1.heap.size; have := b0.size; have hh := dd4.size; (try simp at this); (try simp at hh); first | exact Nat.le_refl _ | omega | exact dd1.size | exact dd2.size | exact dd3.size) _).setCell (by show w20.heap.size ≤ v1.heap.size; have := b0.size; have hh := dd4.size; (try simp at this); (try simp at hh); first | exact Nat.le_refl _ | omega | exact dd1.size | exact dd2.size | exact dd3.size) _
              have hR : RdE ((v4.setCell ⟨v1.heap.size, 0, none⟩ (.int .i64 N)).setCell ⟨v1.heap.size, 1, none⟩ (.slice A3 M0 c3)) A3 rs := (hF.away (((Only.refl _ _).set 0 _).set 1 _ : Only (some ⟨v1.heap.size, 0, none⟩) v4 _) hlz).rd
              clear hS
              have hS : ((v4.setCell ⟨v1.heap.size, 0, none⟩ (.int .i64 N)).setCell ⟨v1.heap.size, 1, none⟩ (.slice A3 M0 c3)).cell? ⟨w.heap.size, 0, none⟩ = some (.int .i64 n) ∧ ((v4.setCell ⟨v1.heap.size, 0, none⟩ (.int .i64 N)).setCell ⟨v1.heap.size, 1, none⟩ (.slice A3 M0 c3)).cell? ⟨w.heap.size, 1, none⟩ = some (.slice A L c) ∧ ((v4.setCell ⟨v1.heap.size, 0, none⟩ (.int .i64 N)).setCell ⟨v1.heap.size, 1, none⟩ (.slice A3 M0 c3)).cell? ⟨w.heap.size + 1, 0, none⟩ = some (.int .i64 m) ∧ ((v4.setCell ⟨v1.heap.size, 0, none⟩ (.int .i64 N)).setCell ⟨v1.heap.size, 1, none⟩ (.slice A3 M0 c3)).cell? ⟨w.heap.size + 1, 1, none⟩ = some (.slice B M d) := ⟨((bcell cU).1 _ _ (by omega)).trans k00, ((bcell cU).1 _ _ (by omega)).trans k01, ((bcell cU).1 _ _ s2).trans k10, ((bcell cU).1 _ _ s2).trans k11⟩
              refine hK.out _ _ ?s78 (fun hHeld78 => ?_)
              case s78 => ((try dsimp only); (first | exact hS | exact ⟨k00, k01, k10, k11⟩ | assumption | (first | go_keep | (obtain ⟨hq, _⟩ := bcell ‹Below _ _ _›; (repeat' apply And.intro) <;> (rw [hq _ _ (by first | assumption | omega | (simp; done) | (simp; omega) | (simp; assumption))] <;> (first | assumption | (simp [*]; done)))))))
              clear hK K hHeld
              have hHeld := hHeld78; clear hHeld78
              try simp only [Act.put, List.setIfInBounds_toArray, List.set_cons_zero, List.set_cons_succ]
              have HU : Hid _ := hZ
              refine wpAnyH_take_d (i := 14) (d := some 24) (v := ?v79) rfl rfl (by kernel_rfl) (by kernel_rfl) (by kernel_rfl) (fun _ _ _ h => h) (Or.inl ⟨by kernel_rfl, ?y79⟩) (by assumption) ?_
              case y79 => (intro w' hSw; (try dsimp only at hSw); go_simp; try with_reducible rfl)
              try simp only [Act.put, List.setIfInBounds_toArray, List.set_cons_zero, List.set_cons_succ]
              refine wpAnyH_done (by kernel_rfl) ?_ _
              refine NoPanic.normal ?_
              (try go_wp2_with fail)
              go_meet
              exact ⟨_, A3, c3, rfl, rfl, Lib.hid hZ, Lib.hid hR, Lib.hid cU⟩
          · go_simp
            have dd1 : Below w20.heap.size w20 (w20.drew.alloc (.cells #[.int .i64 0, .slice none 0 0] 28)) := b0.alloc b0.size _
            have hz1 : Blk (w20.drew.alloc (.cells #[.int .i64 0, .slice none 0 0] 28)) w20.heap.size 28 #[.int .i64 0, .slice none 0 0] := Blk.new w20.drew _ _
            have hS : (w20.drew.alloc (.cells #[.int .i64 0, .slice none 0 0] 28)).cell? ⟨w.heap.size, 0, none⟩ = some (.int .i64 n) ∧ (w20.drew.alloc (.cells #[.int .i64 0, .slice none 0 0] 28)).cell? ⟨w.heap.size, 1, none⟩ = some (.slice A L c) ∧ (w20.drew.alloc (.cells #[.int .i64 0, .slice none 0 0] 28)).cell? ⟨w.heap.size + 1, 0, none⟩ = some (.int .i64 m) ∧ (w20.drew.alloc (.cells #[.int .i64 0, .slice none 0 0] 28)).cell? ⟨w.heap.size + 1, 1, none⟩ = some (.slice B M d) := ⟨((bcell dd1).1 _ _ (by omega)).trans k00, ((bcell dd1).1 _ _ (by omega)).trans k01, ((bcell dd1).1 _ _ s2).trans k10, ((bcell dd1).1 _ _ s2).trans k11⟩
            refine hK.out _ _ ?s80 (fun hHeld80 => ?_)
            case s80 => ((try dsimp only); (first | exact hS | exact ⟨k00, k01, k10, k11⟩ | assumption | (first | go_keep | (obtain ⟨hq, _⟩ := bcell ‹Below _ _ _›; (repeat' apply And.intro) <;> (rw [hq _ _ (by first | assumption | omega | (simp; done) | (simp; omega) | (simp; assumption))] <;> (first | assumption | (simp [*]; done)))))))
            clear hK K hHeld
            have hHeld := hHeld80; clear hHeld80
            try simp only [Act.put, List.setIfInBounds_toArray, List.set_cons_zero, List.set_cons_succ]
            refine wpAnyH_ready (rs := [1]) (by kernel_rfl) (by simp) ?_
            refine AllReadyH.cons rfl (fun K hK => ?_) AllReadyH.nil
            go_simp
            refine (ct1.out _ (B20.trans (dd1.mono B20.size))).mono ?_
            rintro xx v2 ⟨g1, rfl, hg1, hE1, hb2⟩
            have dd2 : Below w20.heap.size w20 v2 := dd1.trans (hb2.mono dd1.size)
            have hz2 := hz1.below hb2 hz1.lt
            have hS : v2.cell? ⟨w.heap.size, 0, none⟩ = some (.int .i64 n) ∧ v2.cell? ⟨w.heap.size, 1, none⟩ = some (.slice A L c) ∧ v2.cell? ⟨w.heap.size + 1, 0, none⟩ = some (.int .i64 m) ∧ v2.cell? ⟨w.heap.size + 1, 1, none⟩ = some (.slice B M d) := ⟨((bcell dd2).1 _ _ (by omega)).trans k00, ((bcell dd2).1 _ _ (by omega)).trans k01, ((bcell dd2).1 _ _ s2).trans k10, ((bcell dd2).1 _ _ s2).trans k11⟩
            refine hK.out _ _ ?s81 (fun hHeld81 => ?_)
            case s81 => ((try dsimp only); (first | exact hS | exact ⟨k00, k01, k10, k11⟩ | assumption | (first | go_keep | (obtain ⟨hq, _⟩ := bcell ‹Below _ _ _›; (repeat' apply And.intro) <;> (rw [hq _ _ (by first | assumption | omega | (simp; done) | (simp; omega) | (simp; assumption))] <;> (first | assumption | (simp [*]; done)))))))
            clear hK K hHeld
            have hHeld := hHeld81; clear hHeld81
            try simp only [Act.put, List.setIfInBounds_toArray, List.set_cons_zero, List.set_cons_succ]
            refine wpAnyH_ready (rs := [5]) (by kernel_rfl) (by simp) ?_
            refine AllReadyH.cons rfl (fun K hK => ?_) AllReadyH.nil
            go_simp
            refine (ct2.out _ (B20.trans (dd2.mono B20.size))).mono ?_
            rintro xx v3 ⟨g2, rfl, hg2, hE2, hb3⟩
            have dd3 : Below w20.heap.size w20 v3 := dd2.trans (hb3.mono dd2.size)
            have e31 := hE1.below hb3 hE1.lt
            have hz3 := hz2.below hb3 hz2.lt
            have hS : v3.cell? ⟨w.heap.size, 0, none⟩ = some (.int .i64 n) ∧ v3.cell? ⟨w.heap.size, 1, none⟩ = some (.slice A L c) ∧ v3.cell? ⟨w.heap.size + 1, 0, none⟩ = some (.int .i64 m) ∧ v3.cell? ⟨w.heap.size + 1, 1, none⟩ = some (.slice B M d) := ⟨((bcell dd3).1 _ _ (by omega)).trans k00, ((bcell dd3).1 _ _ (by omega)).trans k01, ((bcell dd3).1 _ _ s2).trans k10, ((bcell dd3).1 _ _ s2).trans k11⟩
            refine hK.out _ _ ?s82 (fun hHeld82 => ?_)
            case s82 => ((try dsimp only); (first | exact hS | exact ⟨k00, k01, k10, k11⟩ | assumption | (first | go_keep | (obtain ⟨hq, _⟩ := bcell ‹Below _ _ _›; (repeat' apply And.intro) <;> (rw [hq _ _ (by first | assumption | omega | (simp; done) | (simp; omega) | (simp; assumption))] <;> (first | assumption | (simp [*]; done)))))))
            clear hK K hHeld
            have hHeld := hHeld82; clear hHeld82
            try simp only [Act.put, List.setIfInBounds_toArray, List.set_cons_zero, List.set_cons_succ]
            refine wpAnyH_ready (rs := [8]) (by kernel_rfl) (by simp) ?_
            refine AllReadyH.cons rfl (fun K hK => ?_) AllReadyH.nil
            go_simp
            refine (ci.out v3 g1 g2 e31 hE2).mono ?_
            rintro xx v4 ⟨hq, hb4⟩
            obtain ⟨A3, c3, rfl, hF⟩ := hq.open_ HM0.out
            have dd4 : Below w20.heap.size w20 v4 := dd3.trans (hb4.mono dd3.size)
            have hlz := hz3.lt
            have hz4 := hz3.below hb4 hz3.lt
            have hS : v4.cell? ⟨w.heap.size, 0, none⟩ = some (.int .i64 n) ∧ v4.cell? ⟨w.heap.size, 1, none⟩ = some (.slice A L c) ∧ v4.cell? ⟨w.heap.size + 1, 0, none⟩ = some (.int .i64 m) ∧ v4.cell? ⟨w.heap.size + 1, 1, none⟩ = some (.slice B M d) := ⟨((bcell dd4).1 _ _ (by omega)).trans k00, ((bcell dd4).1 _ _ (by omega)).trans k01, ((bcell dd4).1 _ _ s2).trans k10, ((bcell dd4).1 _ _ s2).trans k11⟩
            refine hK.out _ _ ?s83 (fun hHeld83 => ?_)
            case s83 => ((try dsimp only); (first | exact hS | exact ⟨k00, k01, k10, k11⟩ | assumption | (first | go_keep | (obtain ⟨hq, _⟩ := bcell ‹Below _ _ _›; (repeat' apply And.intro) <;> (rw [hq _ _ (by first | assumption | omega | (simp; done) | (simp; omega) | (simp; assumption))] <;> (first | assumption | (simp [*]; done)))))))
            clear hK K hHeld
            have hHeld := hHeld83; clear hHeld83
            try simp only [Act.put, List.setIfInBounds_toArray, List.set_cons_zero, List.set_cons_succ]
            refine wpAnyH_take_d (i := 9) (d := some 110) (v := ?v84) rfl rfl (by kernel_rfl) (by kernel_rfl) (by kernel_rfl) (fun _ _ _ h => h) (Or.inl ⟨by kernel_rfl, ?y84⟩) (by assumption) ?_
            case y84 => (intro w' hSw; (try dsimp only at hSw); go_simp; try with_reducible rfl)
            try simp only [Act.put, List.setIfInBounds_toArray, List.set_cons_zero, List.set_cons_succ]
            refine wpAnyH_take_d (i := 10) (d := some 120) (v := ?v85) rfl rfl (by kernel_rfl) (by kernel_rfl) (by kernel_rfl) (fun _ _ _ h => h) (Or.inl ⟨by kernel_rfl, ?y85⟩) (by assumption) ?_
            case y85 => (intro w' hSw; (try dsimp only at hSw); go_simp; try with_reducible rfl)
            try simp only [Act.put, List.setIfInBounds_toArray, List.set_cons_zero, List.set_cons_succ]
            refine wpAnyH_take_d (i := 11) (d := some 121) (v := ?v86) rfl rfl (by kernel_rfl) (by kernel_rfl) (by kernel_rfl) (fun _ _ _ h => h) (Or.inl ⟨by kernel_rfl, ?y86⟩) (by assumption) ?_
            case y86 => (intro w' hSw; (try dsimp only at hSw); go_simp; try with_reducible rfl)
            try simp only [Act.put, List.setIfInBounds_toArray, List.set_cons_zero, List.set_cons_succ]
            have x0 := hz4.cellAt 0 _ rfl; have x1 : (v4.setCell ⟨w20.heap.size, 0, none⟩ (.int .i64 N)).cell? ⟨w20.heap.size, 1, none⟩ = some (.slice none 0 0) := (sc_other (by simp)).trans (hz4.cellAt 1 _ rfl); have f0 := hz4.frozen 0; have f1 := hz4.frozen 1
            refine wpAnyH_ready (rs := [13]) (by kernel_rfl) (by simp) ?_
            refine AllReadyH.cons rfl (fun K hK => ?_) AllReadyH.nil
            go_simp
            have hZ : Blk ((v4.setCell ⟨w20.heap.size, 0, none⟩ (.int .i64 N)).setCell ⟨w20.heap.size, 1, none⟩ (.slice A3 M0 c3)) w20.heap.size 28 #[.int .i64 N, .slice A3 M0 c3] := (hz4.set_ 0 (.int .i64 N)).set_ 1 (.slice A3 M0 c3)
            have cU : Below w20.heap.size w20 ((v4.setCell ⟨w20.heap.size, 0, none⟩ (.int .i64 N)).setCell ⟨w20.heap.size, 1, none⟩ (.slice A3 M0 c3)) := (dd4.setCell (by show w20.heap.size ≤ w20.heap.size; have := b0.size; have hh := dd4.size; (try simp at this); (try simp at hh); first | exact Nat.le_refl _ | omega | exact dd1.size | exact dd2.size | exact dd3.size) _).setCell (by show w20.heap.size ≤ w20.heap.size; have := b0.size; have hh := dd4.size; (try simp at this); (try simp at hh); first | exact Nat.le_refl _ | omega | exact dd1.size | exact dd2.size | exact dd3.size) _
            have hR : RdE ((v4.setCell ⟨w20.heap.size, 0, none⟩ (.int .i64 N)).setCell ⟨w20.heap.size, 1, none⟩ (.slice A3 M0 c3)) A3 rs := (hF.away (((Only.refl _ _).set 0 _).set 1 _ : Only (some ⟨w20.heap.size, 0, none⟩) v4 _) hlz).rd
            clear hS
            have hS : ((v4.setCell ⟨w20.heap.size, 0, none⟩ (.int .i64 N)).setCell ⟨w20.heap.size, 1, none⟩ (.slice A3 M0 c3)).cell? ⟨w.heap.size, 0, none⟩ = some (.int .i64 n) ∧ ((v4.setCell ⟨w20.heap.size, 0, none⟩ (.int .i64 N)).setCell ⟨w20.heap.size, 1, none⟩ (.slice A3 M0 c3)).cell? ⟨w.heap.size, 1, none⟩ = some (.slice A L c) ∧ ((v4.setCell ⟨w20.heap.size, 0, none⟩ (.int .i64 N)).setCell ⟨w20.heap.size, 1, none⟩ (.slice A3 M0 c3)).cell? ⟨w.heap.size + 1, 0, none⟩ = some (.int .i64 m) ∧ ((v4.setCell ⟨w20.heap.size, 0, none⟩ (.int .i64 N)).setCell ⟨w20.heap.size, 1, none⟩ (.slice A3 M0 c3)).cell? ⟨w.heap.size + 1, 1, none⟩ = some (.slice B M d) := ⟨((bcell cU).1 _ _ (by omega)).trans k00, ((bcell cU).1 _ _ (by omega)).trans k01, ((bcell cU).1 _ _ s2).trans k10, ((bcell cU).1 _ _ s2).trans k11⟩
            refine hK.out _ _ ?s87 (fun hHeld87 => ?_)
            case s87 => ((try dsimp only); (first | exact hS | exact ⟨k00, k01, k10, k11⟩ | assumption | (first | go_keep | (obtain ⟨hq, _⟩ := bcell ‹Below _ _ _›; (repeat' apply And.intro) <;> (rw [hq _ _ (by first | assumption | omega | (simp; done) | (simp; omega) | (simp; assumption))] <;> (first | assumption | (simp [*]; done)))))))
            clear hK K hHeld
            have hHeld := hHeld87; clear hHeld87
            try simp only [Act.put, List.setIfInBounds_toArray, List.set_cons_zero, List.set_cons_succ]
            have HU : Hid _ := hZ
            refine wpAnyH_take_d (i := 14) (d := some 24) (v := ?v88) rfl rfl (by kernel_rfl) (by kernel_rfl) (by kernel_rfl) (fun _ _ _ h => h) (Or.inl ⟨by kernel_rfl, ?y88⟩) (by assumption) ?_
            case y88 => (intro w' hSw; (try dsimp only at hSw); go_simp; try with_reducible rfl)
            try simp only [Act.put, List.setIfInBounds_toArray, List.set_cons_zero, List.set_cons_succ]
            refine wpAnyH_done (by kernel_rfl) ?_ _
            refine NoPanic.normal ?_
            (try go_wp2_with fail)
            go_meet
            exact ⟨_, A3, c3, rfl, rfl, Lib.hid hZ, Lib.hid hR, Lib.hid cU⟩
        case rest =>
          obtain ⟨gY, A6, c6, rfl, rfl, X1, W1, Hu1⟩ := hcut
          obtain ⟨u21, hu21⟩ : ∃ u, u = wc := ⟨_, rfl⟩
          subst hu21
          have D21 : Hid (Below u3.heap.size u3 u21) := D20.out.trans (Hu1.out.mono D20.out.size)
          have FR21 := Lib.hid (FR20.out.below Hu1.out)
          have G21 : Hid (Blk u21 w10.heap.size 28 #[.int .i64 N, .slice A5 M0 c5]) := G20.out.below Hu1.out G20.out.lt
          have x50 := X1.out.cellAt 0 _ rfl
          have x51 := X1.out.cellAt 1 _ rfl
          have y50 := (X0.out.below D21.out X0.out.lt).cellAt 0 _ rfl
          have y51 := (X0.out.below D21.out X0.out.lt).cellAt 1 _ rfl
          clear k00 k01 k10 k11 KG20 KH20 B20 s2 Hu1 D20 FR20 G20
          go_wp2_with fail
          refine (cq.out _ _ _ _ _ W1.out (W0.out.below D21.out)).mono ?_
          rintro x w22 ⟨rfl, hb22⟩
          have D22 : Hid (Below u3.heap.size u3 w22) := D21.out.trans (hb22.mono D21.out.size)
          have FR22 := Lib.hid (FR21.out.below hb22)
          have G22 : Hid (Blk w22 w10.heap.size 28 #[.int .i64 N, .slice A5 M0 c5]) := G21.out.below hb22 G21.out.lt
          have x60 := G22.out.cellAt 0 _ rfl
          have x61 := G22.out.cellAt 1 _ rfl
          clear hb22 D21 FR21 G21 x50 x51 y50 y51 X1 W1
          go_wp2_with fail
          refine (ch.out _ _ _ FR22.out.rd).mono ?_
          rintro x w23 ⟨rfl, hb23⟩
          have D23 : Below u3.heap.size u3 w23 := D22.out.trans (hb23.mono D22.out.size)
          clear hb23 D22 FR22 G22 x60 x61
          go_wp2
          go_ret
          exact ⟨rfl, B3.out.trans (D23.mono B3.out.size)⟩

    · have hk2 : k2 < 0 := by have := Hk2.out; rw [if_neg h2] at this; omega
      clear hr hr2 Hk1 Hk2 hk1' h2 h1 hl hl2
      generalize es.length = L at *
      generalize hs.length = M at *
      go_enter Tryz.func4, Tryz.ntmps4
      go_wp2_with fail
      refine (cs.out _).mono ?_
      rintro x w1 ⟨rfl, hb1⟩
      have KH1 := Lib.hid (((Blk.new' (n := w.heap.size + 1) _ (by simp)).below hb1 (by simp)) : Blk w1 (w.heap.size + 1) 24 #[.int .i64 m, .slice B M d])
      have Hb1 : Hid (Below w.heap.size w w1) := by show Below _ _ _; exact Below.trans (b := ((w.alloc (.cells #[.int .i64 n, .slice A L c] 24)).alloc (.cells #[.int .i64 m, .slice B M d] 24))) (by (repeat' (first | (with_reducible exact Below.refl _ _) | (with_reducible assumption) | (with_reducible refine Below.alloc ?_ ?_ _) | (with_reducible refine Below.drew ?_) | (with_reducible refine below_drewN ?_ _) | (with_reducible refine Below.setCell ?_ ?_ _) | (with_reducible refine Below.trans ?_ (Below.mono (by assumption) ?_)) | (first | omega | (simp only [World.size_alloc, World.size_setCell, World.size_drew]; omega) | (simp; omega) | (simp; done))))) (hb1.mono (by simp; omega))
      have k10 := KH1.out.cellAt 0 _ rfl
      have k11 := KH1.out.cellAt 1 _ rfl
      clear hb1
      go_wp2_with fail
      refine (cs2.out _).mono ?_
      rintro x w2 ⟨rfl, hb2⟩
      go_wp2
      go_ret
      exact ⟨rfl, Hb1.out.trans (hb2.mono Hb1.out.size)⟩
  · have hk1 : k1 < 0 := by have := Hk1.out; rw [if_neg (by omega)] at this; omega
    clear hr hr2 Hk1 h1 hl hl2
    generalize es.length = L at *
    generalize hs.length = M at *
    go_enter Tryz.func4, Tryz.ntmps4
    go_wp2_with fail
    refine (cs.out _).mono ?_
    rintro x w1 ⟨rfl, hb1⟩
    go_wp2
    go_ret
    exact ⟨rfl, Below.trans (b := ((w.alloc (.cells #[.int .i64 n, .slice A L c] 24)).alloc (.cells #[.int .i64 m, .slice B M d] 24))) (by (repeat' (first | (with_reducible exact Below.refl _ _) | (with_reducible assumption) | (with_reducible refine Below.alloc ?_ ?_ _) | (with_reducible refine Below.drew ?_) | (with_reducible refine below_drewN ?_ _) | (with_reducible refine Below.setCell ?_ ?_ _) | (with_reducible refine Below.trans ?_ (Below.mono (by assumption) ?_)) | (first | omega | (simp only [World.size_alloc, World.size_setCell, World.size_drew]; omega) | (simp; omega) | (simp; done))))) (hb1.mono (by simp; omega))⟩
end Go.Proofs.YtjgmoffkecnmcaaGreat
