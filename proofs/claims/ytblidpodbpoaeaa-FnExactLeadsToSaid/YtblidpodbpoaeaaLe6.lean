/- The walk of the law FnExactLeadsTo. No statement of the program is proved here. -/
import Derived.Test.YtblidpodbpoaeaaLe3
import Derived.Test.YtblidpodbpoaeaaLe5
import Derived.Test.YtblidpodbpoaeaaGl2
import Derived.Test.YtblidpodbpoaeaaCi1
namespace Go.Proofs.Ytblidpodbpoaeaa
open Go.RowKit
set_option linter.unusedSimpArgs false
set_option linter.unusedVariables false
set_option maxRecDepth 20000

set_option maxHeartbeats 8000000 in
theorem lawLeads_any (n : Int) (A : Option Addr) (c : Nat) (es : List (Int × Int)) (m : Int) (B : Option Addr) (d : Nat) (hs : List (Int × Int)) (D : Option Addr) (e : Nat) (p : List Int) (w : World) (hl : es.length ≤ 9223372036854775807) (hl2 : hs.length ≤ 9223372036854775807) (hpl : p.length ≤ 9223372036854775807) (hr : RdE w A es) (hr2 : RdE w B hs) (hrp : RdI w D p) :
    Calls Try.prog 8 #[.agg #[.int .i64 n, .slice A es.length c], .agg #[.int .i64 m, .slice B hs.length d], .slice D p.length e] w fun x w' => x = .returned (.bool true) ∧ Below w.heap.size w w' := by
  by_cases h0 : p.length ≤ 1048576
  · have g0 : ¬ ((p.length : Int) > 1048576) := by omega
    obtain ⟨k1, Hk1⟩ : ∃ k : Int, Hid ((if (es.length : Int) ≤ 1048576 then 1048576 - (es.length : Int) else -1) = k) := ⟨_, rfl⟩
    have cs := Lib.hid fun W => szGraph2_any n A es.length c 1048576 W (by omega) hl k1 Hk1
    by_cases h1 : es.length ≤ 1048576
    · have hk1 : ¬ k1 < 0 := by have := Hk1.out; rw [if_pos (by omega)] at this; omega
      have hk1' : k1 = 1048576 - (es.length : Int) := by have := Hk1.out; rw [if_pos (by omega)] at this; omega
      obtain ⟨k2, Hk2⟩ : ∃ k : Int, Hid ((if (hs.length : Int) ≤ k1 then k1 - (hs.length : Int) else -1) = k) := ⟨_, rfl⟩
      have cs2 := Lib.hid fun W => szGraph2_any m B hs.length d k1 W (by omega) hl2 k2 Hk2
      by_cases h2 : (hs.length : Int) ≤ k1
      · have hk2 : ¬ k2 < 0 := by have := Hk2.out; rw [if_pos h2] at this; omega
        have h3 : hs.length ≤ 1048576 := by omega
        obtain ⟨r, R1⟩ : ∃ r, Hid ((leadV n es m hs p).1 = r) := ⟨_, rfl⟩
        obtain ⟨v, R2⟩ : ∃ r, Hid ((leadV n es m hs p).2 = r) := ⟨_, rfl⟩
        have ct1 := Lib.hid fun W hW => toGraph_any n A c es W h1 (RdE.below (w' := W) hr hW)
        have ct2 := Lib.hid fun W hW => toGraph_any m B d hs W h3 (RdE.below (w' := W) hr2 hW)
        have ct3 := Lib.hid fun W hW => toInt64S_any D e p W h0 (RdI.below (w' := W) hrp hW)
        have cp := Lib.hid fun W (g1 g2 g3 : Nat) (h4 : Blk W g1 54 (cE es).toArray) (h5 : Blk W g2 54 (cE hs).toArray) (h6 : Blk W g3 2 (cI p).toArray) => specLeads_b n (some ⟨g1, 0, none⟩) es.length es m (some ⟨g2, 0, none⟩) hs.length hs (some ⟨g3, 0, none⟩) p.length p W h1 h3 h0 (blkE_rd h4) (blkE_rd h5) (blkI_rd h6) r v R1 R2
        have ci := Lib.hid fun W (g1 g2 g3 : Nat) (h4 : Blk W g1 54 (cE es).toArray) (h5 : Blk W g2 54 (cE hs).toArray) (h6 : Blk W g3 2 (cI p).toArray) => implLeads_b n (some ⟨g1, 0, none⟩) es.length es m (some ⟨g2, 0, none⟩) hs.length hs (some ⟨g3, 0, none⟩) p.length p W h1 h3 h0 (blkE_rd h4) (blkE_rd h5) (blkI_rd h6) r v R1 R2
        have ce1 := fun W g g' (hB : Blk W g 54 (cE es).toArray) (hB' : Blk W g' 54 (cE es).toArray) => eqGraph_any n n (some ⟨g, 0, none⟩) (some ⟨g', 0, none⟩) es.length es.length es es W h1 h1 (blkE_rd hB) (blkE_rd hB')
        have ce2 := fun W g g' (hB : Blk W g 54 (cE hs).toArray) (hB' : Blk W g' 54 (cE hs).toArray) => eqGraph_any m m (some ⟨g, 0, none⟩) (some ⟨g', 0, none⟩) hs.length hs.length hs hs W h3 h3 (blkE_rd hB) (blkE_rd hB')
        simp only [decide_true, Bool.and_self] at ce1 ce2
        have ce1 := Lib.hid ce1
        have ce2 := Lib.hid ce2
        have ce3 := Lib.hid fun W g g' (hB : Blk W g 2 (cI p).toArray) (hB' : Blk W g' 2 (cI p).toArray) => eqInt64S_same (some ⟨g, 0, none⟩) (some ⟨g', 0, none⟩) p.length p.length p p.length W (Lib.hid rfl) h0 (blkI_rd hB) (blkI_rd hB')
        have p3 : (r != r) = false := by simp
        have p4 : (v != v) = false := by simp
        clear hr hr2 hrp R1 R2 Hk1 Hk2 hk1' h2 h3 h1 h0 hl hl2 hpl
        generalize es.length = L at *
        generalize hs.length = M at *
        generalize p.length = K at *
        go_enter Try.func8, Try.ntmps8
        go_wp2_with fail
        refine (cs.out _).mono ?_
        rintro x w1 ⟨rfl, hb1⟩
        have KG1 := Lib.hid ((((Blk.new w _ _).alloc _).below hb1 (by simp; omega)) : Blk w1 w.heap.size 32 #[.int .i64 n, .slice A L c])
        have KH1 := Lib.hid (((Blk.new' (n := w.heap.size + 1) _ (by simp)).below hb1 (by simp)) : Blk w1 (w.heap.size + 1) 32 #[.int .i64 m, .slice B M d])
        have Hb1 : Hid (Below w.heap.size w w1) := by show Below _ _ _; exact Below.trans (b := ((w.alloc (.cells #[.int .i64 n, .slice A L c] 32)).alloc (.cells #[.int .i64 m, .slice B M d] 32))) (by (repeat' (first | (with_reducible exact Below.refl _ _) | (with_reducible assumption) | (with_reducible refine Below.alloc ?_ ?_ _) | (with_reducible refine Below.drew ?_) | (with_reducible refine below_drewN ?_ _) | (with_reducible refine Below.setCell ?_ ?_ _) | (with_reducible refine Below.trans ?_ (Below.mono (by assumption) ?_)) | (first | omega | (simp only [World.size_alloc, World.size_setCell, World.size_drew]; omega) | (simp; omega) | (simp; done))))) (hb1.mono (by simp; omega))
        have k10 := KH1.out.cellAt 0 _ rfl
        have k11 := KH1.out.cellAt 1 _ rfl
        clear hb1
        go_wp2_with fail
        refine (cs2.out _).mono ?_
        rintro x w2 ⟨rfl, hb2⟩
        have KG2 := Lib.hid (KG1.out.below hb2 KG1.out.lt)
        have KH2 := Lib.hid (KH1.out.below hb2 KH1.out.lt)
        have B2 : Below w.heap.size w w2 := Hb1.out.trans (hb2.mono Hb1.out.size)
        have s2 := KH2.out.lt
        clear hb2 k10 k11 KG1 KH1 Hb1
        have k00 := KG2.out.cellAt 0 _ rfl
        have k01 := KG2.out.cellAt 1 _ rfl
        have k10 := KH2.out.cellAt 0 _ rfl
        have k11 := KH2.out.cellAt 1 _ rfl
        go_wp2
        refine wp_region_noPanic ?_
        refine wp_region_held_drew (S := (fun w' => w'.cell? ⟨w.heap.size, 0, none⟩ = some (.int .i64 n) ∧ w'.cell? ⟨w.heap.size, 1, none⟩ = some (.slice A L c) ∧ w'.cell? ⟨w.heap.size + 1, 0, none⟩ = some (.int .i64 m) ∧ w'.cell? ⟨w.heap.size + 1, 1, none⟩ = some (.slice B M d))) (by kernel_rfl) ?_ (fun hHeld => ?_)
        · (try dsimp only); (first | go_keep | (obtain ⟨hq, _⟩ := bcell ‹Below _ _ _›; (repeat' apply And.intro) <;> (rw [hq _ _ (by first | assumption | omega | (simp; done) | (simp; omega) | (simp; assumption))] <;> (first | assumption | (simp [*]; done)))))
        refine wpAnyH_take_d (i := 0) (d := some 29) (v := ?v1) rfl rfl (by kernel_rfl) (by kernel_rfl) (by kernel_rfl) (fun _ _ _ h => h) (Or.inl ⟨by kernel_rfl, ?y1⟩) (by assumption) ?_
        case y1 => (intro w' hSw; (try dsimp only at hSw); go_simp; try with_reducible rfl)
        try simp only [Act.put, List.setIfInBounds_toArray, List.set_cons_zero, List.set_cons_succ]
        refine wpAnyH_take_d (i := 2) (d := some 31) (v := ?v2) rfl rfl (by kernel_rfl) (by kernel_rfl) (by kernel_rfl) (fun _ _ _ h => h) (Or.inl ⟨by kernel_rfl, ?y2⟩) (by assumption) ?_
        case y2 => (intro w' hSw; (try dsimp only at hSw); go_simp; try with_reducible rfl)
        try simp only [Act.put, List.setIfInBounds_toArray, List.set_cons_zero, List.set_cons_succ]
        refine wpAnyH_take_d (i := 4) (d := some 33) (v := ?v3) rfl rfl (by kernel_rfl) (by kernel_rfl) (by kernel_rfl) (fun _ _ _ h => h) (Or.inl ⟨by kernel_rfl, ?y3⟩) (by assumption) ?_
        case y3 => (intro w' hSw; (try dsimp only at hSw); go_simp; try with_reducible rfl)
        try simp only [Act.put, List.setIfInBounds_toArray, List.set_cons_zero, List.set_cons_succ]
        refine wpAnyH_ready (rs := [1]) (by kernel_rfl) (by simp) ?_
        refine AllReadyH.cons rfl (fun K hK => ?_) AllReadyH.nil
        go_simp
        refine (ct1.out _ (by (repeat' (first | (with_reducible exact Below.refl _ _) | (with_reducible assumption) | (with_reducible refine Below.alloc ?_ ?_ _) | (with_reducible refine Below.drew ?_) | (with_reducible refine below_drewN ?_ _) | (with_reducible refine Below.setCell ?_ ?_ _) | (with_reducible refine Below.trans ?_ (Below.mono (by assumption) ?_)) | (first | omega | (simp only [World.size_alloc, World.size_setCell, World.size_drew]; omega) | (simp; omega) | (simp; done)))))).mono ?_; rintro x w3 ⟨g1, rfl, hg1, hE1, hb3⟩; have z3 := hb3.size; (try simp only [World.size_alloc, World.size_setCell, World.size_drew] at z3)
        refine hK.out _ _ ?s4 (fun hHeld4 => ?_)
        case s4 => ((try dsimp only); (first | go_keep | (obtain ⟨hq, _⟩ := bcell ‹Below _ _ _›; (repeat' apply And.intro) <;> (rw [hq _ _ (by first | assumption | omega | (simp; done) | (simp; omega) | (simp; assumption))] <;> (first | assumption | (simp [*]; done))))))
        clear hK K hHeld
        have hHeld := hHeld4; clear hHeld4
        try simp only [Act.put, List.setIfInBounds_toArray, List.set_cons_zero, List.set_cons_succ]
        refine wpAnyH_ready (rs := [3]) (by kernel_rfl) (by simp) ?_
        refine AllReadyH.cons rfl (fun K hK => ?_) AllReadyH.nil
        go_simp
        refine (ct2.out _ (by (repeat' (first | (with_reducible exact Below.refl _ _) | (with_reducible assumption) | (with_reducible refine Below.alloc ?_ ?_ _) | (with_reducible refine Below.drew ?_) | (with_reducible refine below_drewN ?_ _) | (with_reducible refine Below.setCell ?_ ?_ _) | (with_reducible refine Below.trans ?_ (Below.mono (by assumption) ?_)) | (first | omega | (simp only [World.size_alloc, World.size_setCell, World.size_drew]; omega) | (simp; omega) | (simp; done)))))).mono ?_; rintro x w4 ⟨g2, rfl, hg2, hE2, hb4⟩; have z4 := hb4.size; (try simp only [World.size_alloc, World.size_setCell, World.size_drew] at z4)
        refine hK.out _ _ ?s5 (fun hHeld5 => ?_)
        case s5 => ((try dsimp only); (first | go_keep | (obtain ⟨hq, _⟩ := bcell ‹Below _ _ _›; (repeat' apply And.intro) <;> (rw [hq _ _ (by first | assumption | omega | (simp; done) | (simp; omega) | (simp; assumption))] <;> (first | assumption | (simp [*]; done))))))
        clear hK K hHeld
        have hHeld := hHeld5; clear hHeld5
        try simp only [Act.put, List.setIfInBounds_toArray, List.set_cons_zero, List.set_cons_succ]
        refine wpAnyH_ready (rs := [5]) (by kernel_rfl) (by simp) ?_
        refine AllReadyH.cons rfl (fun K hK => ?_) AllReadyH.nil
        go_simp
        refine (ct3.out _ (by (repeat' (first | (with_reducible exact Below.refl _ _) | (with_reducible assumption) | (with_reducible refine Below.alloc ?_ ?_ _) | (with_reducible refine Below.drew ?_) | (with_reducible refine below_drewN ?_ _) | (with_reducible refine Below.setCell ?_ ?_ _) | (with_reducible refine Below.trans ?_ (Below.mono (by assumption) ?_)) | (first | omega | (simp only [World.size_alloc, World.size_setCell, World.size_drew]; omega) | (simp; omega) | (simp; done)))))).mono ?_; rintro x w5 ⟨rfl, hE3, hb5⟩; have z5 := hb5.size; (try simp only [World.size_alloc, World.size_setCell, World.size_drew] at z5)
        refine hK.out _ _ ?s6 (fun hHeld6 => ?_)
        case s6 => ((try dsimp only); (first | go_keep | (obtain ⟨hq, _⟩ := bcell ‹Below _ _ _›; (repeat' apply And.intro) <;> (rw [hq _ _ (by first | assumption | omega | (simp; done) | (simp; omega) | (simp; assumption))] <;> (first | assumption | (simp [*]; done))))))
        clear hK K hHeld
        have hHeld := hHeld6; clear hHeld6
        try simp only [Act.put, List.setIfInBounds_toArray, List.set_cons_zero, List.set_cons_succ]
        refine wpAnyH_ready (rs := [6]) (by kernel_rfl) (by simp) ?_
        refine AllReadyH.cons rfl (fun K hK => ?_) AllReadyH.nil
        go_simp
        refine (cp.out w5 g1 g2 _ ((hE1.below hb4 hE1.lt).below hb5 (Nat.lt_of_lt_of_le hE1.lt z4)) (hE2.below hb5 hE2.lt) hE3).mono ?_; rintro x w6 ⟨rfl, hb6⟩; have z6 := hb6.size; (try simp only [World.size_alloc, World.size_setCell, World.size_drew] at z6)
        refine hK.out _ _ ?s7 (fun hHeld7 => ?_)
        case s7 => ((try dsimp only); (first | go_keep | (obtain ⟨hq, _⟩ := bcell ‹Below _ _ _›; (repeat' apply And.intro) <;> (rw [hq _ _ (by first | assumption | omega | (simp; done) | (simp; omega) | (simp; assumption))] <;> (first | assumption | (simp [*]; done))))))
        clear hK K hHeld
        have hHeld := hHeld7; clear hHeld7
        try simp only [Act.put, List.setIfInBounds_toArray, List.set_cons_zero, List.set_cons_succ]
        refine wpAnyH_take_d (i := 7) (d := some 28) (v := ?v8) rfl rfl (by kernel_rfl) (by kernel_rfl) (by kernel_rfl) (fun _ _ _ h => h) (Or.inl ⟨by kernel_rfl, ?y8⟩) (by assumption) ?_
        case y8 => (intro w' hSw; (try dsimp only at hSw); go_simp; try with_reducible rfl)
        try simp only [Act.put, List.setIfInBounds_toArray, List.set_cons_zero, List.set_cons_succ]
        refine wpAnyH_take_d (i := 8) (d := some 36) (v := ?v9) rfl rfl (by kernel_rfl) (by kernel_rfl) (by kernel_rfl) (fun _ _ _ h => h) (Or.inl ⟨by kernel_rfl, ?y9⟩) (by assumption) ?_
        case y9 => (intro w' hSw; (try dsimp only at hSw); go_simp; try with_reducible rfl)
        try simp only [Act.put, List.setIfInBounds_toArray, List.set_cons_zero, List.set_cons_succ]
        refine wpAnyH_take_d (i := 9) (d := some 37) (v := ?v10) rfl rfl (by kernel_rfl) (by kernel_rfl) (by kernel_rfl) (fun _ _ _ h => h) (Or.inl ⟨by kernel_rfl, ?y10⟩) (by assumption) ?_
        case y10 => (intro w' hSw; (try dsimp only at hSw); go_simp; try with_reducible rfl)
        try simp only [Act.put, List.setIfInBounds_toArray, List.set_cons_zero, List.set_cons_succ]
        refine wpAnyH_take_d (i := 10) (d := some 8) (v := ?v11) rfl rfl (by kernel_rfl) (by kernel_rfl) (by kernel_rfl) (fun _ _ _ h => h) (Or.inl ⟨by kernel_rfl, ?y11⟩) (by assumption) ?_
        case y11 => (intro w' hSw; (try dsimp only at hSw); go_simp; try with_reducible rfl)
        try simp only [Act.put, List.setIfInBounds_toArray, List.set_cons_zero, List.set_cons_succ]
        refine wpAnyH_take_d (i := 11) (d := some 9) (v := ?v12) rfl rfl (by kernel_rfl) (by kernel_rfl) (by kernel_rfl) (fun _ _ _ h => h) (Or.inl ⟨by kernel_rfl, ?y12⟩) (by assumption) ?_
        case y12 => (intro w' hSw; (try dsimp only at hSw); go_simp; try with_reducible rfl)
        try simp only [Act.put, List.setIfInBounds_toArray, List.set_cons_zero, List.set_cons_succ]
        refine wpAnyH_done (by kernel_rfl) ?_ _
        refine NoPanic.normal ?_
        have b26 : Below w2.heap.size w2 w6 := (Below.drew (Below.refl _ _)).trans (hb3.trans ((hb4.mono z3).trans ((hb5.mono (Nat.le_trans z3 z4)).trans (hb6.mono (Nat.le_trans z3 (Nat.le_trans z4 z5))))))
        have KG6 := Lib.hid (KG2.out.below b26 (by omega))
        have KH6 := Lib.hid (KH2.out.below b26 s2)
        have B6 := Lib.hid (B2.trans (b26.mono B2.size))
        have s6 := KH6.out.lt
        clear hHeld hb3 hb4 hb5 hb6 z3 z4 z5 z6 hE1 hE2 hE3 hg1 hg2 b26 KG2 KH2 B2 s2 k00 k01 k10 k11 cs cs2 cp
        have k00 := KG6.out.cellAt 0 _ rfl
        have k01 := KG6.out.cellAt 1 _ rfl
        go_wp2_with fail
        refine (ct1.out w6 B6.out).mono ?_
        rintro x w7 ⟨gA, rfl, hgA, hE7, hb7⟩
        obtain ⟨u7, hu7⟩ : ∃ u, u = w7.alloc (.cells #[.int .i64 n, .slice (some ⟨gA, 0, none⟩) L L] 24) := ⟨_, rfl⟩
        have b67 : Below w6.heap.size w6 u7 := by rw [hu7]; exact hb7.alloc hb7.size _
        have X7 : Hid (Blk u7 w7.heap.size 24 #[.int .i64 n, .slice (some ⟨gA, 0, none⟩) L L]) := by rw [hu7]; exact Blk.new w7 _ _
        have E7 : Hid (Blk u7 gA 54 (cE es).toArray) := by rw [hu7]; exact hE7.alloc _
        have KG7 := Lib.hid (KG6.out.below b67 (by omega))
        have KH7 := Lib.hid (KH6.out.below b67 s6)
        have B7 := Lib.hid (B6.out.trans (b67.mono B6.out.size))
        have s7 : w6.heap.size ≤ w7.heap.size := hb7.size
        have su7 := X7.out.lt
        have k10 := KH7.out.cellAt 0 _ rfl
        have k11 := KH7.out.cellAt 1 _ rfl
        rw [hu7] at k10 k11
        clear hE7 hb7 hgA b67 KG6 KH6 B6 k00 k01
        go_wp2_with fail
        rw [← hu7]
        clear hu7
        refine (ct2.out u7 B7.out).mono ?_
        rintro x w8 ⟨gB, rfl, hgB, hE8, hb8⟩
        obtain ⟨u8, hu8⟩ : ∃ u, u = w8.alloc (.cells #[.int .i64 m, .slice (some ⟨gB, 0, none⟩) M M] 24) := ⟨_, rfl⟩
        have b78 : Below u7.heap.size u7 u8 := by rw [hu8]; exact hb8.alloc hb8.size _
        have Y8 : Hid (Blk u8 w8.heap.size 24 #[.int .i64 m, .slice (some ⟨gB, 0, none⟩) M M]) := by rw [hu8]; exact Blk.new w8 _ _
        have F8 : Hid (Blk u8 gB 54 (cE hs).toArray) := by rw [hu8]; exact hE8.alloc _
        have X8 := Lib.hid (X7.out.below b78 X7.out.lt)
        have E8 := Lib.hid (E7.out.below b78 E7.out.lt)
        have KG8 := Lib.hid (KG7.out.below b78 KG7.out.lt)
        have KH8 := Lib.hid (KH7.out.below b78 KH7.out.lt)
        have B8 := Lib.hid (B7.out.trans (b78.mono B7.out.size))
        have su8 := Y8.out.lt
        clear hE8 hb8 hgB b78 KG7 KH7 B7 X7 E7 k10 k11
        go_wp2_with fail
        rw [← hu8]
        clear hu8
        refine (ct3.out u8 B8.out).mono ?_
        rintro x w9 ⟨rfl, hE9, hb9⟩
        have G9 := Lib.hid hE9
        have X9 := Lib.hid (X8.out.below hb9 X8.out.lt)
        have E9 := Lib.hid (E8.out.below hb9 E8.out.lt)
        have Y9 := Lib.hid (Y8.out.below hb9 Y8.out.lt)
        have F9 := Lib.hid (F8.out.below hb9 F8.out.lt)
        have KG9 := Lib.hid (KG8.out.below hb9 KG8.out.lt)
        have KH9 := Lib.hid (KH8.out.below hb9 KH8.out.lt)
        have B9 := Lib.hid (B8.out.trans (hb9.mono B8.out.size))
        clear hE9 hb9 X8 E8 Y8 F8 KG8 KH8 B8
        have x0 := X9.out.cellAt 0 _ rfl
        have x1 := X9.out.cellAt 1 _ rfl
        have y0 := Y9.out.cellAt 0 _ rfl
        have y1 := Y9.out.cellAt 1 _ rfl
        go_wp2_with fail
        refine (ci.out w9 gA gB u8.heap.size E9.out F9.out G9.out).mono ?_
        rintro x w10 ⟨rfl, hb10⟩
        have G10 := Lib.hid (G9.out.below hb10 G9.out.lt)
        have X10 := X9.out.below hb10 X9.out.lt
        have E10 := E9.out.below hb10 E9.out.lt
        have Y10 := Lib.hid (Y9.out.below hb10 Y9.out.lt)
        have F10 := Lib.hid (F9.out.below hb10 F9.out.lt)
        have KG10 := KG9.out.below hb10 KG9.out.lt
        have KH10 := Lib.hid (KH9.out.below hb10 KH9.out.lt)
        have B10 := B9.out.trans (hb10.mono B9.out.size)
        clear hb10 X9 E9 Y9 F9 G9 KG9 KH9 B9 x0 x1 y0 y1 ci
        have x0 := X10.cellAt 0 _ rfl
        have x1 := X10.cellAt 1 _ rfl
        have d0 := KG10.cellAt 0 _ rfl
        have d1 := KG10.cellAt 1 _ rfl
        have zx := X10.lt
        have zk := KG10.lt
        go_wp2
        refine wp_region_noPanic ?_
        refine wp_region_held_drew (S := (fun w' => w'.cell? ⟨w.heap.size, 0, none⟩ = some (.int .i64 n) ∧ w'.cell? ⟨w.heap.size, 1, none⟩ = some (.slice A L c) ∧ w'.cell? ⟨w7.heap.size, 0, none⟩ = some (.int .i64 n) ∧ w'.cell? ⟨w7.heap.size, 1, none⟩ = some (.slice (some ⟨gA, 0, none⟩) L L))) (by kernel_rfl) ?_ (fun hHeld => ?_)
        · (try dsimp only); (first | go_keep | (obtain ⟨hq, _⟩ := bcell ‹Below _ _ _›; (repeat' apply And.intro) <;> (rw [hq _ _ (by first | assumption | omega | (simp; done) | (simp; omega) | (simp; assumption))] <;> (first | assumption | (simp [*]; done)))))
        refine wpAnyH_take_d (i := 0) (d := some 59) (v := ?v13) rfl rfl (by kernel_rfl) (by kernel_rfl) (by kernel_rfl) (fun _ _ _ h => h) (Or.inl ⟨by kernel_rfl, ?y13⟩) (by assumption) ?_
        case y13 => (intro w' hSw; (try dsimp only at hSw); go_simp; try with_reducible rfl)
        try simp only [Act.put, List.setIfInBounds_toArray, List.set_cons_zero, List.set_cons_succ]
        refine wpAnyH_take_d (i := 1) (d := some 60) (v := ?v14) rfl rfl (by kernel_rfl) (by kernel_rfl) (by kernel_rfl) (fun _ _ _ h => h) (Or.inl ⟨by kernel_rfl, ?y14⟩) (by assumption) ?_
        case y14 => (intro w' hSw; (try dsimp only at hSw); go_simp; try with_reducible rfl)
        try simp only [Act.put, List.setIfInBounds_toArray, List.set_cons_zero, List.set_cons_succ]
        refine wpAnyH_ready (rs := [2]) (by kernel_rfl) (by simp) ?_
        refine AllReadyH.cons rfl (fun K hK => ?_) AllReadyH.nil
        go_simp
        refine (ct1.out _ B10.drew).mono ?_; rintro x w11 ⟨g3, rfl, hg3, hE3, hb11⟩; have z11 := hb11.size; (try simp only [World.size_alloc, World.size_setCell, World.size_drew] at z11)
        refine hK.out _ _ ?s15 (fun hHeld15 => ?_)
        case s15 => ((try dsimp only); (first | go_keep | (obtain ⟨hq, _⟩ := bcell ‹Below _ _ _›; (repeat' apply And.intro) <;> (rw [hq _ _ (by first | assumption | omega | (simp; done) | (simp; omega) | (simp; assumption))] <;> (first | assumption | (simp [*]; done))))))
        clear hK K hHeld
        have hHeld := hHeld15; clear hHeld15
        try simp only [Act.put, List.setIfInBounds_toArray, List.set_cons_zero, List.set_cons_succ]
        refine wpAnyH_ready (rs := [3]) (by kernel_rfl) (by simp) ?_
        refine AllReadyH.cons rfl (fun K hK => ?_) AllReadyH.nil
        go_simp
        refine (ce1.out _ _ _ (E10.drew.below hb11 E10.lt) hE3).mono ?_; rintro x w12 ⟨rfl, hb12⟩; have z12 := hb12.size; (try simp only [World.size_alloc, World.size_setCell, World.size_drew] at z12)
        refine hK.out _ _ ?s16 (fun hHeld16 => ?_)
        case s16 => ((try dsimp only); (first | go_keep | (obtain ⟨hq, _⟩ := bcell ‹Below _ _ _›; (repeat' apply And.intro) <;> (rw [hq _ _ (by first | assumption | omega | (simp; done) | (simp; omega) | (simp; assumption))] <;> (first | assumption | (simp [*]; done))))))
        clear hK K hHeld
        have hHeld := hHeld16; clear hHeld16
        try simp only [Act.put, List.setIfInBounds_toArray, List.set_cons_zero, List.set_cons_succ]
        refine wpAnyH_take_d (i := 4) (d := some 63) (v := ?v17) rfl rfl (by kernel_rfl) (by kernel_rfl) (by kernel_rfl) (fun _ _ _ h => h) (Or.inl ⟨by kernel_rfl, ?y17⟩) (by assumption) ?_
        case y17 => (intro w' hSw; (try dsimp only at hSw); go_simp; try with_reducible rfl)
        try simp only [Act.put, List.setIfInBounds_toArray, List.set_cons_zero, List.set_cons_succ]
        refine wpAnyH_done (by kernel_rfl) ?_ _
        refine NoPanic.normal ?_
        have b12 : Below w10.heap.size w10 w12 := (Below.drew (Below.refl _ _)).trans (hb11.trans (hb12.mono z11))
        have G12 := Lib.hid (G10.out.below b12 G10.out.lt)
        have Y12 := Y10.out.below b12 Y10.out.lt
        have F12 := F10.out.below b12 F10.out.lt
        have KH12 := KH10.out.below b12 KH10.out.lt
        have B12 := B10.trans (b12.mono B10.size)
        clear hHeld hb11 hb12 hE3 hg3 b12 X10 E10 KG10 B10 G10 Y10 F10 KH10 x0 x1 d0 d1 zx zk z11 z12
        have x0 := Y12.cellAt 0 _ rfl
        have x1 := Y12.cellAt 1 _ rfl
        have d0 := KH12.cellAt 0 _ rfl
        have d1 := KH12.cellAt 1 _ rfl
        have zx := Y12.lt
        have zk := KH12.lt
        go_wp2
        refine wp_region_noPanic ?_
        refine wp_region_held_drew (S := (fun w' => w'.cell? ⟨w.heap.size + 1, 0, none⟩ = some (.int .i64 m) ∧ w'.cell? ⟨w.heap.size + 1, 1, none⟩ = some (.slice B M d) ∧ w'.cell? ⟨w8.heap.size, 0, none⟩ = some (.int .i64 m) ∧ w'.cell? ⟨w8.heap.size, 1, none⟩ = some (.slice (some ⟨gB, 0, none⟩) M M))) (by kernel_rfl) ?_ (fun hHeld => ?_)
        · (try dsimp only); (first | go_keep | (obtain ⟨hq, _⟩ := bcell ‹Below _ _ _›; (repeat' apply And.intro) <;> (rw [hq _ _ (by first | assumption | omega | (simp; done) | (simp; omega) | (simp; assumption))] <;> (first | assumption | (simp [*]; done)))))
        refine wpAnyH_take_d (i := 0) (d := some 64) (v := ?v18) rfl rfl (by kernel_rfl) (by kernel_rfl) (by kernel_rfl) (fun _ _ _ h => h) (Or.inl ⟨by kernel_rfl, ?y18⟩) (by assumption) ?_
        case y18 => (intro w' hSw; (try dsimp only at hSw); go_simp; try with_reducible rfl)
        try simp only [Act.put, List.setIfInBounds_toArray, List.set_cons_zero, List.set_cons_succ]
        refine wpAnyH_take_d (i := 1) (d := some 65) (v := ?v19) rfl rfl (by kernel_rfl) (by kernel_rfl) (by kernel_rfl) (fun _ _ _ h => h) (Or.inl ⟨by kernel_rfl, ?y19⟩) (by assumption) ?_
        case y19 => (intro w' hSw; (try dsimp only at hSw); go_simp; try with_reducible rfl)
        try simp only [Act.put, List.setIfInBounds_toArray, List.set_cons_zero, List.set_cons_succ]
        refine wpAnyH_ready (rs := [2]) (by kernel_rfl) (by simp) ?_
        refine AllReadyH.cons rfl (fun K hK => ?_) AllReadyH.nil
        go_simp
        refine (ct2.out _ B12.drew).mono ?_; rintro x w13 ⟨g4, rfl, hg4, hE4, hb13⟩; have z13 := hb13.size; (try simp only [World.size_alloc, World.size_setCell, World.size_drew] at z13)
        refine hK.out _ _ ?s20 (fun hHeld20 => ?_)
        case s20 => ((try dsimp only); (first | go_keep | (obtain ⟨hq, _⟩ := bcell ‹Below _ _ _›; (repeat' apply And.intro) <;> (rw [hq _ _ (by first | assumption | omega | (simp; done) | (simp; omega) | (simp; assumption))] <;> (first | assumption | (simp [*]; done))))))
        clear hK K hHeld
        have hHeld := hHeld20; clear hHeld20
        try simp only [Act.put, List.setIfInBounds_toArray, List.set_cons_zero, List.set_cons_succ]
        refine wpAnyH_ready (rs := [3]) (by kernel_rfl) (by simp) ?_
        refine AllReadyH.cons rfl (fun K hK => ?_) AllReadyH.nil
        go_simp
        refine (ce2.out _ _ _ (F12.drew.below hb13 F12.lt) hE4).mono ?_; rintro x w14 ⟨rfl, hb14⟩; have z14 := hb14.size; (try simp only [World.size_alloc, World.size_setCell, World.size_drew] at z14)
        refine hK.out _ _ ?s21 (fun hHeld21 => ?_)
        case s21 => ((try dsimp only); (first | go_keep | (obtain ⟨hq, _⟩ := bcell ‹Below _ _ _›; (repeat' apply And.intro) <;> (rw [hq _ _ (by first | assumption | omega | (simp; done) | (simp; omega) | (simp; assumption))] <;> (first | assumption | (simp [*]; done))))))
        clear hK K hHeld
        have hHeld := hHeld21; clear hHeld21
        try simp only [Act.put, List.setIfInBounds_toArray, List.set_cons_zero, List.set_cons_succ]
        refine wpAnyH_take_d (i := 4) (d := some 68) (v := ?v22) rfl rfl (by kernel_rfl) (by kernel_rfl) (by kernel_rfl) (fun _ _ _ h => h) (Or.inl ⟨by kernel_rfl, ?y22⟩) (by assumption) ?_
        case y22 => (intro w' hSw; (try dsimp only at hSw); go_simp; try with_reducible rfl)
        try simp only [Act.put, List.setIfInBounds_toArray, List.set_cons_zero, List.set_cons_succ]
        refine wpAnyH_done (by kernel_rfl) ?_ _
        refine NoPanic.normal ?_
        have b14 : Below w12.heap.size w12 w14 := (Below.drew (Below.refl _ _)).trans (hb13.trans (hb14.mono z13))
        have G14 := Lib.hid (G12.out.below b14 G12.out.lt)
        have B14 := Lib.hid (B12.trans (b14.mono B12.size))
        clear hHeld hb13 hb14 hE4 hg4 b14 Y12 F12 KH12 B12 G12 x0 x1 d0 d1 zx zk z13 z14
        go_wp2_with fail
        refine (ct3.out w14 B14.out).mono ?_
        rintro x w15 ⟨rfl, hE15, hb15⟩
        have B15 := Lib.hid (B14.out.trans (hb15.mono B14.out.size))
        have G15 := Lib.hid (G14.out.below hb15 G14.out.lt)
        clear hb15 G14 B14
        go_wp2_with fail
        refine (ce3.out _ _ _ G15.out hE15).mono ?_
        rintro x w16 ⟨rfl, hb16⟩
        go_wp2
        go_ret
        exact ⟨rfl, B15.out.trans (hb16.mono B15.out.size)⟩
      · have hk2 : k2 < 0 := by have := Hk2.out; rw [if_neg h2] at this; omega
        clear hr hr2 hrp Hk1 Hk2 hk1' h2 h1 h0 hl hl2 hpl
        generalize es.length = L at *
        generalize hs.length = M at *
        generalize p.length = K at *
        go_enter Try.func8, Try.ntmps8
        go_wp2_with fail
        refine (cs.out _).mono ?_
        rintro x w1 ⟨rfl, hb1⟩
        have KH1 := Lib.hid (((Blk.new' (n := w.heap.size + 1) _ (by simp)).below hb1 (by simp)) : Blk w1 (w.heap.size + 1) 32 #[.int .i64 m, .slice B M d])
        have Hb1 : Hid (Below w.heap.size w w1) := by show Below _ _ _; exact Below.trans (b := ((w.alloc (.cells #[.int .i64 n, .slice A L c] 32)).alloc (.cells #[.int .i64 m, .slice B M d] 32))) (by (repeat' (first | (with_reducible exact Below.refl _ _) | (with_reducible assumption) | (with_reducible refine Below.alloc ?_ ?_ _) | (with_reducible refine Below.drew ?_) | (with_reducible refine below_drewN ?_ _) | (with_reducible refine Below.setCell ?_ ?_ _) | (with_reducible refine Below.trans ?_ (Below.mono (by assumption) ?_)) | (first | omega | (simp only [World.size_alloc, World.size_setCell, World.size_drew]; omega) | (simp; omega) | (simp; done))))) (hb1.mono (by simp; omega))
        have k10 := KH1.out.cellAt 0 _ rfl
        have k11 := KH1.out.cellAt 1 _ rfl
        clear hb1
        go_wp2_with fail
        refine (cs2.out _).mono ?_
        rintro x w2 ⟨rfl, hb2⟩
        go_wp2
        go_ret
        exact ⟨rfl, Hb1.out.trans (hb2.mono Hb1.out.size)⟩
    · have hk1 : k1 < 0 := by have := Hk1.out; rw [if_neg (by omega)] at this; omega
      clear hr hr2 hrp Hk1 h1 h0 hl hl2 hpl
      generalize es.length = L at *
      generalize hs.length = M at *
      generalize p.length = K at *
      go_enter Try.func8, Try.ntmps8
      go_wp2_with fail
      refine (cs.out _).mono ?_
      rintro x w1 ⟨rfl, hb1⟩
      go_wp2
      go_ret
      exact ⟨rfl, Below.trans (b := ((w.alloc (.cells #[.int .i64 n, .slice A L c] 32)).alloc (.cells #[.int .i64 m, .slice B M d] 32))) (by (repeat' (first | (with_reducible exact Below.refl _ _) | (with_reducible assumption) | (with_reducible refine Below.alloc ?_ ?_ _) | (with_reducible refine Below.drew ?_) | (with_reducible refine below_drewN ?_ _) | (with_reducible refine Below.setCell ?_ ?_ _) | (with_reducible refine Below.trans ?_ (Below.mono (by assumption) ?_)) | (first | omega | (simp only [World.size_alloc, World.size_setCell, World.size_drew]; omega) | (simp; omega) | (simp; done))))) (hb1.mono (by simp; omega))⟩
  · have g0 : (p.length : Int) > 1048576 := by omega
    clear hr hr2 hrp h0 hl hl2 hpl
    generalize es.length = L at *
    generalize hs.length = M at *
    generalize p.length = K at *
    go_enter Try.func8, Try.ntmps8
    go_wp2
    go_ret
    exact ⟨rfl, by (repeat' (first | (with_reducible exact Below.refl _ _) | (with_reducible assumption) | (with_reducible refine Below.alloc ?_ ?_ _) | (with_reducible refine Below.drew ?_) | (with_reducible refine below_drewN ?_ _) | (with_reducible refine Below.setCell ?_ ?_ _) | (with_reducible refine Below.trans ?_ (Below.mono (by assumption) ?_)) | (first | omega | (simp only [World.size_alloc, World.size_setCell, World.size_drew]; omega) | (simp; omega) | (simp; done))))⟩
end Go.Proofs.Ytblidpodbpoaeaa
