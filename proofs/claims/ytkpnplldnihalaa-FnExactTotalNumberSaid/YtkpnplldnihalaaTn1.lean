/- TotalNumber of the program. -/
/- TotalNumber of the reference. -/
/- The walk of the law FnExactTotalNumber. -/
import Derived.Test.YtkpnplldnihalaaLp7
import Derived.Test.YtkpnplldnihalaaEx5
import Derived.Test.YtkpnplldnihalaaTo5
import Derived.Test.YtkpnplldnihalaaGlue3
namespace Go.Proofs.Ytkpnplldnihalaa
open Go.RowKit
set_option linter.unusedSimpArgs false
set_option linter.unusedVariables false
set_option maxRecDepth 20000

/-- What TotalNumber returns. -/
def tnOf (n : Int) (es : List (Int × Int)) : Int × Int :=
  if scode (isGraphB n es) true n 10 = 0 then ((numK (totalAre n.toNat es) (n.toNat + es.length) : Nat), 0) else (0, scode (isGraphB n es) true n 10)

set_option maxHeartbeats 2000000 in
theorem implTn_b (n : Int) (A : Option Addr) (c : Nat) (es : List (Int × Int)) (w : World) (hl : es.length ≤ 1048576) (hr : RdE w A es) (r v : Int) (Hr : Hid ((tnOf n es).1 = r)) (Hv : Hid ((tnOf n es).2 = v)) :
    Calls Try.prog 43 #[.agg #[.int .i64 n, .slice A es.length c]] w fun e w' => e = .returned (.tuple #[.int .i64 r, .int .i64 v]) ∧ Below w.heap.size w w' := by
  obtain ⟨qg, hg⟩ : ∃ q, Hid (isGraphB n es = q) := ⟨_, rfl⟩
  obtain ⟨u, Hu⟩ : ∃ u, Hid (scode qg true n 10 = u) := ⟨_, rfl⟩
  have cg := fun W (hW : Below w.heap.size w W) => smallCode_b n A c es 10 W qg true u hg Hu hl (hr.below hW)
  by_cases h : u = 0
  · subst h
    obtain ⟨rfl, hn⟩ := scode_zero Hu.out
    have b2 := isGraphB_len hg.out
    obtain ⟨hn1, hn2⟩ := isGraphB_n hg.out
    have hin := isGraphB_in hg.out
    obtain ⟨N, rfl⟩ : ∃ m : Nat, n = m := ⟨n.toNat, by omega⟩
    rw [Int.toNat_natCast] at hin
    have hge := total_four hg.out
    obtain ⟨⟨k1, k2⟩, k3, k4⟩ := numK_spec (are := totalAre N es) (T := N + es.length) (by omega)
    obtain ⟨T, HT⟩ : ∃ T, Hid (N + es.length = T) := ⟨_, rfl⟩
    have HT1 : T ≤ 1000 := by have := HT.out; omega
    obtain ⟨K, HK⟩ : ∃ K, Hid (numK (totalAre N es) (N + es.length) = K) := ⟨_, rfl⟩
    rw [HK.out] at hge k1 k2 k3 k4
    rw [HT.out] at k2 k3 k4
    have Hr2 : Hid ((K : Int) = r) := by show _ = _; rw [← Hr.out, tnOf, hg.out, if_pos Hu.out, Int.toNat_natCast, HK.out]
    have Hv2 : Hid (0 = v) := by show _ = _; rw [← Hv.out, tnOf, hg.out, if_pos Hu.out]
    have cn := fun W (hW : Below w.heap.size w W) => totalThings_b N T A c es W HT (by omega) (by omega) hin (hr.below hW)
    have cl := fun (W : World) (An : Option Addr) (c' : Nat) (hX : RdL W An (nbrs (totalAre N es) T)) => leastNumber_b T c' 4 K An (totalAre N es) W (by omega) hge (by omega) (by omega) k3 (fun j h1 h2 => k4 j (by omega) h2) hX
    have Cl := Lib.hid cl
    clear Hr Hv hr hg Hu HK k1 k2 k3 k4 hge cl hin HT
    generalize nbrs (totalAre N es) T = X at *
    generalize es.length = L at *
    go_enter Try.func43, Try.ntmps43
    go_wp2_with fail
    refine (cg _ (by (repeat' (first | (with_reducible exact Below.refl _ _) | (with_reducible assumption) | (with_reducible refine Below.alloc ?_ ?_ _) | (with_reducible refine Below.drew ?_) | (with_reducible refine below_drewN ?_ _) | (with_reducible refine Below.setCell ?_ ?_ _) | (with_reducible refine Below.trans ?_ (Below.mono (by assumption) ?_)) | (first | omega | (simp only [World.size_alloc, World.size_setCell, World.size_drew]; omega) | (simp; omega) | (simp; done)))))).mono ?_
    rintro e w1 ⟨rfl, hb1⟩
    simp only [World.size_alloc, World.size_setCell, World.size_drew] at hb1; have B1 : Below w.heap.size w w1 := by (repeat' (first | (with_reducible exact Below.refl _ _) | (with_reducible assumption) | (with_reducible refine Below.alloc ?_ ?_ _) | (with_reducible refine Below.drew ?_) | (with_reducible refine below_drewN ?_ _) | (with_reducible refine Below.setCell ?_ ?_ _) | (with_reducible refine Below.trans ?_ (Below.mono (by assumption) ?_)) | (first | omega | (simp only [World.size_alloc, World.size_setCell, World.size_drew]; omega) | (simp; omega) | (simp; done))))
    have K1 : Blk w1 w.heap.size 30 #[.int .i64 (N : Int), .slice A L c] := (Blk.new' _ rfl).below hb1 (by omega)
    have d10 := K1.cellAt 0 _ rfl; have d11 := K1.cellAt 1 _ rfl; have z1 := hb1.size; simp only [World.size_alloc, World.size_setCell, World.size_drew] at z1
    go_wp2_with fail
    refine (cn _ B1).mono ?_
    rintro e w2 ⟨g, rfl, hX, hb2⟩
    have B2 : Below w.heap.size w w2 := B1.trans (hb2.mono B1.size)
    have c2 := Cl.out _ _ T hX
    clear hX
    go_wp2_with fail
    refine c2.mono ?_
    rintro e w3 ⟨rfl, hb3⟩
    go_wp2
    go_ret2
    exact ⟨by rw [← Hr2.out, ← Hv2.out]; rfl, B2.trans (hb3.mono B2.size)⟩
  · have Hr2 : Hid (0 = r) := by show _ = _; rw [← Hr.out, tnOf, hg.out, if_neg (by rw [Hu.out]; exact h)]
    have Hv2 : Hid (u = v) := by show _ = _; rw [← Hv.out, tnOf, hg.out, if_neg (by rw [Hu.out]; exact h), Hu.out]
    have g1 : (u != 0) = true := by simpa using h
    have g2 : (u == 0) = false := by simpa using h
    clear Hr Hv hr hg Hu
    generalize es.length = L at *
    go_enter Try.func43, Try.ntmps43
    go_wp2_with fail
    refine (cg _ (by (repeat' (first | (with_reducible exact Below.refl _ _) | (with_reducible assumption) | (with_reducible refine Below.alloc ?_ ?_ _) | (with_reducible refine Below.drew ?_) | (with_reducible refine below_drewN ?_ _) | (with_reducible refine Below.setCell ?_ ?_ _) | (with_reducible refine Below.trans ?_ (Below.mono (by assumption) ?_)) | (first | omega | (simp only [World.size_alloc, World.size_setCell, World.size_drew]; omega) | (simp; omega) | (simp; done)))))).mono ?_
    rintro e w1 ⟨rfl, hb1⟩
    go_wp2
    go_ret2
    exact ⟨by rw [← Hr2.out, ← Hv2.out]; rfl, by (repeat' (first | (with_reducible exact Below.refl _ _) | (with_reducible assumption) | (with_reducible refine Below.alloc ?_ ?_ _) | (with_reducible refine Below.drew ?_) | (with_reducible refine below_drewN ?_ _) | (with_reducible refine Below.setCell ?_ ?_ _) | (with_reducible refine Below.trans ?_ (Below.mono (by assumption) ?_)) | (first | omega | (simp only [World.size_alloc, World.size_setCell, World.size_drew]; omega) | (simp; omega) | (simp; done))))⟩
end Go.Proofs.Ytkpnplldnihalaa
namespace Go.Proofs.Ytkpnplldnihalaa
open Go.RowKit
set_option linter.unusedSimpArgs false
set_option linter.unusedVariables false
set_option maxRecDepth 20000

theorem areM_relP {T N : Nat} {es : List (Int × Int)} {M : Nat → Nat → Int} (hT : N + es.length = T) (h : RelP T M (nearT N es es.length 0)) (i j : Nat) (h1 : j < i) (h2 : i < T) : areM M i j = totalAre N es i j := by
  obtain ⟨h3, h4⟩ := h i j h1 h2
  have h5 := h4.trans (nearT_total h1 (by omega))
  unfold areM
  rcases h3 with h3 | h3
  · rw [h3] at h5
    have : totalAre N es i j = false := by
      cases h6 : totalAre N es i j
      · rfl
      · exact absurd (h5.2 h6) (by decide)
    rw [this, h3]; rfl
  · rw [h5.1 h3, h3]; rfl

set_option maxHeartbeats 2000000 in
theorem specTn_b (n : Int) (A : Option Addr) (c : Nat) (es : List (Int × Int)) (w : World) (hl : es.length ≤ 1048576) (hr : RdE w A es) (r v : Int) (Hr : Hid ((tnOf n es).1 = r)) (Hv : Hid ((tnOf n es).2 = v)) :
    Calls Try.prog 42 #[.agg #[.int .i64 n, .slice A es.length c]] w fun e w' => e = .returned (.tuple #[.int .i64 r, .int .i64 v]) ∧ Below w.heap.size w w' := by
  obtain ⟨qg, hg⟩ : ∃ q, Hid (isGraphB n es = q) := ⟨_, rfl⟩
  have cg := fun W (hW : Below w.heap.size w W) => l01Is_b n A c es W qg hg hl (hr.below hW)
  cases qg
  · have Hr2 : Hid (0 = r) := by show _ = _; rw [← Hr.out, tnOf, hg.out]; rfl
    have Hv2 : Hid (1 = v) := by show _ = _; rw [← Hv.out, tnOf, hg.out]; rfl
    clear Hr Hv hr hg
    generalize es.length = L at *
    go_enter Try.func42, Try.ntmps42
    go_wp2_with fail
    refine (cg _ (by (repeat' (first | (with_reducible exact Below.refl _ _) | (with_reducible assumption) | (with_reducible refine Below.alloc ?_ ?_ _) | (with_reducible refine Below.drew ?_) | (with_reducible refine below_drewN ?_ _) | (with_reducible refine Below.setCell ?_ ?_ _) | (with_reducible refine Below.trans ?_ (Below.mono (by assumption) ?_)) | (first | omega | (simp only [World.size_alloc, World.size_setCell, World.size_drew]; omega) | (simp; omega) | (simp; done)))))).mono ?_
    rintro e w1 ⟨rfl, hb1⟩
    go_wp2
    go_ret2
    exact ⟨by rw [← Hr2.out, ← Hv2.out]; rfl, by (repeat' (first | (with_reducible exact Below.refl _ _) | (with_reducible assumption) | (with_reducible refine Below.alloc ?_ ?_ _) | (with_reducible refine Below.drew ?_) | (with_reducible refine below_drewN ?_ _) | (with_reducible refine Below.setCell ?_ ?_ _) | (with_reducible refine Below.trans ?_ (Below.mono (by assumption) ?_)) | (first | omega | (simp only [World.size_alloc, World.size_setCell, World.size_drew]; omega) | (simp; omega) | (simp; done))))⟩
  by_cases h : (10 : Int) < n
  · have Hr2 : Hid (0 = r) := by show _ = _; rw [← Hr.out, tnOf, hg.out]; simp [scode, gcode, h]
    have Hv2 : Hid (3 = v) := by show _ = _; rw [← Hv.out, tnOf, hg.out]; simp [scode, gcode, h]
    clear Hr Hv hr hg
    generalize es.length = L at *
    go_enter Try.func42, Try.ntmps42
    go_wp2_with fail
    refine (cg _ (by (repeat' (first | (with_reducible exact Below.refl _ _) | (with_reducible assumption) | (with_reducible refine Below.alloc ?_ ?_ _) | (with_reducible refine Below.drew ?_) | (with_reducible refine below_drewN ?_ _) | (with_reducible refine Below.setCell ?_ ?_ _) | (with_reducible refine Below.trans ?_ (Below.mono (by assumption) ?_)) | (first | omega | (simp only [World.size_alloc, World.size_setCell, World.size_drew]; omega) | (simp; omega) | (simp; done)))))).mono ?_
    rintro e w1 ⟨rfl, hb1⟩
    simp only [World.size_alloc, World.size_setCell, World.size_drew] at hb1; have B1 : Below w.heap.size w w1 := by (repeat' (first | (with_reducible exact Below.refl _ _) | (with_reducible assumption) | (with_reducible refine Below.alloc ?_ ?_ _) | (with_reducible refine Below.drew ?_) | (with_reducible refine below_drewN ?_ _) | (with_reducible refine Below.setCell ?_ ?_ _) | (with_reducible refine Below.trans ?_ (Below.mono (by assumption) ?_)) | (first | omega | (simp only [World.size_alloc, World.size_setCell, World.size_drew]; omega) | (simp; omega) | (simp; done))))
    have K1 : Blk w1 w.heap.size 30 #[.int .i64 n, .slice A L c] := (Blk.new' _ rfl).below hb1 (by omega)
    have d10 := K1.cellAt 0 _ rfl; have d11 := K1.cellAt 1 _ rfl; have z1 := hb1.size; simp only [World.size_alloc, World.size_setCell, World.size_drew] at z1
    go_wp2
    go_ret2
    exact ⟨by rw [← Hr2.out, ← Hv2.out]; rfl, B1⟩
  · have b2 := isGraphB_len hg.out
    obtain ⟨hn1, hn2⟩ := isGraphB_n hg.out
    have hin := isGraphB_in hg.out
    obtain ⟨N, rfl⟩ : ∃ m : Nat, n = m := ⟨n.toNat, by omega⟩
    rw [Int.toNat_natCast] at hin
    obtain ⟨⟨k1, k2⟩, k3, k4⟩ := numK_spec (are := totalAre N es) (T := N + es.length) (by omega)
    obtain ⟨T, HT⟩ : ∃ T, Hid (N + es.length = T) := ⟨_, rfl⟩
    have HT1 : T ≤ 1000 := by have := HT.out; omega
    obtain ⟨K, HK⟩ : ∃ K, Hid (numK (totalAre N es) (N + es.length) = K) := ⟨_, rfl⟩
    rw [HK.out] at k1 k2 k3 k4
    rw [HT.out] at k2 k3 k4
    have Hr2 : Hid ((K : Int) = r) := by show _ = _; rw [← Hr.out, tnOf, hg.out]; simp [scode, gcode, h, HK.out]
    have Hv2 : Hid (0 = v) := by show _ = _; rw [← Hv.out, tnOf, hg.out]; simp [scode, gcode, h]
    have cr := fun (W : World) (hW : Below w.heap.size w W) => l08RowsT_b N T A c es W HT (by omega) (by omega) (by omega) hin (hr.below hW)
    have cl := fun (W : World) (g c' : Nat) (R : Nat → Nat) (M : Nat → Nat → Int) (hM : Mat W g 0 T T R M) (hrel : RelP T M (nearT N es es.length 0)) =>
      have hcg := fun k => okK_congr (are := areM M) (are' := totalAre N es) (T := T) (fun i j h1 h2 => areM_relP HT.out hrel i j h1 h2) k
      l08Least_b g 0 c' T K R _ W k1 (by omega) (by omega) (by show _ = _; rw [hcg]; exact k3) (fun j h1 h2 => by rw [hcg]; exact k4 j h1 h2) hM
    obtain ⟨Q, HQ⟩ : ∃ Q, Hid (nearT N es es.length 0 = Q) := ⟨_, rfl⟩
    simp only [HQ.out] at cr cl
    have Cl := Lib.hid cl
    clear Hr Hv hr hg HK k1 k2 k3 k4 cl hin HT HQ
    generalize es.length = L at *
    go_enter Try.func42, Try.ntmps42
    go_wp2_with fail
    refine (cg _ (by (repeat' (first | (with_reducible exact Below.refl _ _) | (with_reducible assumption) | (with_reducible refine Below.alloc ?_ ?_ _) | (with_reducible refine Below.drew ?_) | (with_reducible refine below_drewN ?_ _) | (with_reducible refine Below.setCell ?_ ?_ _) | (with_reducible refine Below.trans ?_ (Below.mono (by assumption) ?_)) | (first | omega | (simp only [World.size_alloc, World.size_setCell, World.size_drew]; omega) | (simp; omega) | (simp; done)))))).mono ?_
    rintro e w1 ⟨rfl, hb1⟩
    simp only [World.size_alloc, World.size_setCell, World.size_drew] at hb1; have B1 : Below w.heap.size w w1 := by (repeat' (first | (with_reducible exact Below.refl _ _) | (with_reducible assumption) | (with_reducible refine Below.alloc ?_ ?_ _) | (with_reducible refine Below.drew ?_) | (with_reducible refine below_drewN ?_ _) | (with_reducible refine Below.setCell ?_ ?_ _) | (with_reducible refine Below.trans ?_ (Below.mono (by assumption) ?_)) | (first | omega | (simp only [World.size_alloc, World.size_setCell, World.size_drew]; omega) | (simp; omega) | (simp; done))))
    have K1 : Blk w1 w.heap.size 30 #[.int .i64 (N : Int), .slice A L c] := (Blk.new' _ rfl).below hb1 (by omega)
    have d10 := K1.cellAt 0 _ rfl; have d11 := K1.cellAt 1 _ rfl; have z1 := hb1.size; simp only [World.size_alloc, World.size_setCell, World.size_drew] at z1
    go_wp2_with fail
    refine (cr _ B1).mono ?_
    rintro e w2 ⟨g, c', R, M, rfl, hM, hrel, hb2⟩
    have B2 : Below w.heap.size w w2 := B1.trans (hb2.mono B1.size)
    have c2 := Cl.out _ _ c' _ _ hM hrel
    clear hM hrel
    go_wp2_with fail
    refine c2.mono ?_
    rintro e w3 ⟨rfl, hb3⟩
    go_wp2
    go_ret2
    exact ⟨by rw [← Hr2.out, ← Hv2.out]; rfl, B2.trans (hb3.mono B2.size)⟩
end Go.Proofs.Ytkpnplldnihalaa
namespace Go.Proofs.Ytkpnplldnihalaa
open Go.RowKit
set_option linter.unusedSimpArgs false
set_option linter.unusedVariables false
set_option maxRecDepth 20000

set_option maxHeartbeats 2000000 in
theorem lawTn_any (n : Int) (A : Option Addr) (c : Nat) (es : List (Int × Int)) (w : World) (hl : es.length ≤ 9223372036854775807) (hr : RdE w A es) :
    Calls Try.prog 13 #[.agg #[.int .i64 n, .slice A es.length c]] w fun e w' => e = .returned (.bool true) ∧ Below w.heap.size w w' := by
  have cs := fun W => szGraph_any n A es.length c W hl
  by_cases h : es.length ≤ 1048576
  · rw [if_pos h] at cs
    obtain ⟨r1, R1⟩ : ∃ r, Hid ((tnOf n es).1 = r) := ⟨_, rfl⟩
    obtain ⟨r2, R2⟩ : ∃ r, Hid ((tnOf n es).2 = r) := ⟨_, rfl⟩
    have ct := fun W hW => toGraph_any n A c es W h (RdE.below (w' := W) hr hW)
    have cp := fun W g (hB : Blk W g 61 (cE es).toArray) => specTn_b n (some ⟨g, 0, none⟩) es.length es W h (blkE_rd hB) r1 r2 R1 R2
    have ci := fun W g (hB : Blk W g 61 (cE es).toArray) => implTn_b n (some ⟨g, 0, none⟩) es.length es W h (blkE_rd hB) r1 r2 R1 R2
    have ce := fun W g g' (hB : Blk W g 61 (cE es).toArray) (hB' : Blk W g' 61 (cE es).toArray) => eqGraph_any n n (some ⟨g, 0, none⟩) (some ⟨g', 0, none⟩) es.length es.length es es W h h (blkE_rd hB) (blkE_rd hB')
    simp only [decide_true, Bool.and_self] at ce
    have h2 : ¬ ((1048576 : Int) - (es.length : Int) < 0) := by omega
    clear hr R1 R2
    generalize es.length = L at *
    go_enter Try.func13, Try.ntmps13
    go_wp2_with fail
    refine (cs _).mono ?_
    rintro e w1 ⟨rfl, hb1⟩
    simp only [World.size_alloc, World.size_setCell, World.size_drew] at hb1; have B1 : Below w.heap.size w w1 := by (repeat' (first | (with_reducible exact Below.refl _ _) | (with_reducible assumption) | (with_reducible refine Below.alloc ?_ ?_ _) | (with_reducible refine Below.drew ?_) | (with_reducible refine below_drewN ?_ _) | (with_reducible refine Below.setCell ?_ ?_ _) | (with_reducible refine Below.trans ?_ (Below.mono (by assumption) ?_)) | (first | omega | (simp only [World.size_alloc, World.size_setCell, World.size_drew]; omega) | (simp; omega) | (simp; done))))
    have K1 : Blk w1 w.heap.size 24 #[.int .i64 n, .slice A L c] := (Blk.new' _ rfl).below hb1 (by omega)
    have d10 := K1.cellAt 0 _ rfl; have d11 := K1.cellAt 1 _ rfl; have z1 := hb1.size; simp only [World.size_alloc, World.size_setCell, World.size_drew] at z1
    go_wp2_with fail
    refine (ct _ B1).mono ?_
    rintro e w2 ⟨g1, rfl, hg1, hE1, hb2⟩
    have B2 := B1.trans (hb2.mono B1.size); have K2 := K1.below hb2 K1.lt; have d20 := K2.cellAt 0 _ rfl; have d21 := K2.cellAt 1 _ rfl; have z2 := B2.size
    go_wp2_with fail
    refine (cp _ _ hE1).mono ?_
    rintro e w3 ⟨rfl, hb3⟩
    have B3 := B2.trans (hb3.mono B2.size); have K3 := K2.below hb3 K2.lt; have d30 := K3.cellAt 0 _ rfl; have d31 := K3.cellAt 1 _ rfl; have z3 := B3.size
    go_wp2_with fail
    refine (ct _ B3).mono ?_
    rintro e w4 ⟨g2, rfl, hg2, hE2, hb4⟩
    have B4 := B3.trans (hb4.mono B3.size); have K4 := K3.below hb4 K3.lt; have d40 := K4.cellAt 0 _ rfl; have d41 := K4.cellAt 1 _ rfl; have z4 := B4.size
    have X := (Blk.new w4 30 #[.int .i64 n, .slice (some ⟨g2, 0, none⟩) L L])
    go_wp2_with fail
    refine (ci _ _ (hE2.alloc _)).mono ?_
    rintro e w5 ⟨rfl, hb5⟩
    simp only [World.size_alloc, World.size_setCell, World.size_drew] at hb5
    have X5 := X.below hb5 (by omega)
    have E5 := (hE2.alloc _).below hb5 (by have := hE2.lt; omega)
    have K5 := (K4.alloc _).below hb5 (by have := K4.lt; omega)
    have B5 : Below w.heap.size w w5 := by (repeat' (first | (with_reducible exact Below.refl _ _) | (with_reducible assumption) | (with_reducible refine Below.alloc ?_ ?_ _) | (with_reducible refine Below.drew ?_) | (with_reducible refine below_drewN ?_ _) | (with_reducible refine Below.setCell ?_ ?_ _) | (with_reducible refine Below.trans ?_ (Below.mono (by assumption) ?_)) | (first | omega | (simp only [World.size_alloc, World.size_setCell, World.size_drew]; omega) | (simp; omega) | (simp; done))))
    have x0 := X5.cellAt 0 _ rfl
    have x1 := X5.cellAt 1 _ rfl
    have d50 := K5.cellAt 0 _ rfl
    have d51 := K5.cellAt 1 _ rfl
    have z5 := X5.lt
    have z5' := K5.lt
    clear d10 d11 d20 d21 d30 d31 d40 d41 hb1 hb2 hb3 hb4 hb5 K1 K2 K3 K4 B1 B2 B3 B4 X hE1 hE2
    go_wp2_with fail
    refine wp_region_noPanic ?_
    refine wp_region_held_drew (S := (fun w' => w'.cell? ⟨w.heap.size, 0, none⟩ = some (.int .i64 n) ∧ w'.cell? ⟨w.heap.size, 1, none⟩ = some (.slice A L c) ∧ w'.cell? ⟨w4.heap.size, 0, none⟩ = some (.int .i64 n) ∧ w'.cell? ⟨w4.heap.size, 1, none⟩ = some (.slice (some ⟨g2, 0, none⟩) L L))) (by kernel_rfl) ?_ (fun hHeld => ?_)
    · (try dsimp only); (first | go_keep | (obtain ⟨hq, _⟩ := bcell ‹Below _ _ _›; (repeat' apply And.intro) <;> (rw [hq _ _ (by first | assumption | omega | (simp; done) | (simp; omega) | (simp; assumption))] <;> (first | assumption | (simp [*]; done)))))
    refine wpAnyH_take_d (i := 0) (d := some 35) (v := ?v1) rfl rfl (by kernel_rfl) (by kernel_rfl) (by kernel_rfl) (fun _ _ _ h => h) (Or.inl ⟨by kernel_rfl, ?y1⟩) (by assumption) ?_
    case y1 => (intro w' hSw; (try dsimp only at hSw); go_simp; try with_reducible rfl)
    try simp only [Act.put, List.setIfInBounds_toArray, List.set_cons_zero, List.set_cons_succ]
    refine wpAnyH_take_d (i := 1) (d := some 36) (v := ?v2) rfl rfl (by kernel_rfl) (by kernel_rfl) (by kernel_rfl) (fun _ _ _ h => h) (Or.inl ⟨by kernel_rfl, ?y2⟩) (by assumption) ?_
    case y2 => (intro w' hSw; (try dsimp only at hSw); go_simp; try with_reducible rfl)
    try simp only [Act.put, List.setIfInBounds_toArray, List.set_cons_zero, List.set_cons_succ]
    refine wpAnyH_ready (rs := [2]) (by kernel_rfl) (by simp) ?_
    refine AllReadyH.cons rfl (fun K hK => ?_) AllReadyH.nil
    go_simp
    refine (ct _ B5.drew).mono ?_; rintro e w6 ⟨g3, rfl, hg3, hE3, hb6⟩; have z6 := hb6.size; (try simp only [World.size_alloc, World.size_setCell, World.size_drew] at z6)
    refine hK.out _ _ ?s3 (fun hHeld3 => ?_)
    case s3 => ((try dsimp only); (first | go_keep | (obtain ⟨hq, _⟩ := bcell ‹Below _ _ _›; (repeat' apply And.intro) <;> (rw [hq _ _ (by first | assumption | omega | (simp; done) | (simp; omega) | (simp; assumption))] <;> (first | assumption | (simp [*]; done))))))
    clear hK K hHeld
    have hHeld := hHeld3; clear hHeld3
    try simp only [Act.put, List.setIfInBounds_toArray, List.set_cons_zero, List.set_cons_succ]
    refine wpAnyH_ready (rs := [3]) (by kernel_rfl) (by simp) ?_
    refine AllReadyH.cons rfl (fun K hK => ?_) AllReadyH.nil
    go_simp
    refine (ce _ _ _ (E5.drew.below hb6 E5.lt) hE3).mono ?_; rintro e w7 ⟨rfl, hb7⟩
    refine hK.out _ _ ?s4 (fun hHeld4 => ?_)
    case s4 => ((try dsimp only); (first | go_keep | (obtain ⟨hq, _⟩ := bcell ‹Below _ _ _›; (repeat' apply And.intro) <;> (rw [hq _ _ (by first | assumption | omega | (simp; done) | (simp; omega) | (simp; assumption))] <;> (first | assumption | (simp [*]; done))))))
    clear hK K hHeld
    have hHeld := hHeld4; clear hHeld4
    try simp only [Act.put, List.setIfInBounds_toArray, List.set_cons_zero, List.set_cons_succ]
    refine wpAnyH_take_d (i := 4) (d := some 39) (v := ?v5) rfl rfl (by kernel_rfl) (by kernel_rfl) (by kernel_rfl) (fun _ _ _ h => h) (Or.inl ⟨by kernel_rfl, ?y5⟩) (by assumption) ?_
    case y5 => (intro w' hSw; (try dsimp only at hSw); go_simp; try with_reducible rfl)
    try simp only [Act.put, List.setIfInBounds_toArray, List.set_cons_zero, List.set_cons_succ]
    refine wpAnyH_done (by kernel_rfl) ?_ _
    refine NoPanic.normal ?_
    go_wp2
    go_ret
    exact ⟨rfl, by (repeat' (first | (with_reducible exact Below.refl _ _) | (with_reducible assumption) | (with_reducible refine Below.alloc ?_ ?_ _) | (with_reducible refine Below.drew ?_) | (with_reducible refine below_drewN ?_ _) | (with_reducible refine Below.setCell ?_ ?_ _) | (with_reducible refine Below.trans ?_ (Below.mono (by assumption) ?_)) | (first | omega | (simp only [World.size_alloc, World.size_setCell, World.size_drew]; omega) | (simp; omega) | (simp; done))))⟩
  · rw [if_neg h] at cs
    clear hr
    generalize es.length = L at *
    go_enter Try.func13, Try.ntmps13
    go_wp2_with fail
    refine (cs _).mono ?_
    rintro e w1 ⟨rfl, hb1⟩
    go_wp2
    go_ret
    exact ⟨rfl, by (repeat' (first | (with_reducible exact Below.refl _ _) | (with_reducible assumption) | (with_reducible refine Below.alloc ?_ ?_ _) | (with_reducible refine Below.drew ?_) | (with_reducible refine below_drewN ?_ _) | (with_reducible refine Below.setCell ?_ ?_ _) | (with_reducible refine Below.trans ?_ (Below.mono (by assumption) ?_)) | (first | omega | (simp only [World.size_alloc, World.size_setCell, World.size_drew]; omega) | (simp; omega) | (simp; done))))⟩
end Go.Proofs.Ytkpnplldnihalaa
