/- IsTotal of the reference. -/
import Derived.Test.YtkpnplldnihalaaTo4
import Derived.Test.YtkpnplldnihalaaSt3
namespace Go.Proofs.Ytkpnplldnihalaa
open Go.RowKit
set_option linter.unusedSimpArgs false
set_option linter.unusedVariables false
set_option maxRecDepth 20000

set_option maxHeartbeats 4000000 in
theorem specTotal_b (n : Int) (A : Option Addr) (c : Nat) (es : List (Int × Int)) (k : Int) (B : Option Addr) (cb : Nat) (xs : List Int) (w : World) (hl : es.length ≤ 1048576) (hlx : xs.length ≤ 1048576) (hr : RdE w A es) (hx : RdI w B xs) (r : Bool) (v : Int) (Hr : Hid ((totOf n es k xs).1 = r)) (Hv : Hid ((totOf n es k xs).2 = v)) :
    Calls Try.prog 36 #[.agg #[.int .i64 n, .slice A es.length c], .int .i64 k, .slice B xs.length cb] w fun e w' => e = .returned (.tuple #[.bool r, .int .i64 v]) ∧ Below w.heap.size w w' := by
  obtain ⟨qg, hg⟩ : ∃ q, Hid (isGraphB n es = q) := ⟨_, rfl⟩
  obtain ⟨qc, hc⟩ : ∃ q, Hid (inB k 1 20 = q) := ⟨_, rfl⟩
  obtain ⟨nT, HnT⟩ : ∃ q, Hid (wrap64 (n + es.length) = q) := ⟨_, rfl⟩
  obtain ⟨qd, hd⟩ : ∃ q, Hid (decide ((xs.length : Int) = nT) = q) := ⟨_, rfl⟩
  have Hr2 : Hid ((qg && ((qc && qd) && properB (n.toNat + es.length) xs k (totalAre n.toNat es) (fun x y => decide (x = y)))) = r) := by show _ = _; rw [← Hr.out, totOf, hg.out, hc.out, HnT.out, hd.out]
  have Hv2 : Hid (gcode qg (qc && qd) = v) := by show _ = _; rw [← Hv.out, totOf, hg.out, hc.out, HnT.out, hd.out]
  have cs := fun W (hW : Below w.heap.size w W) => l01Is_b n A c es W qg hg hl (hr.below hW)
  have cc := fun W => l01In_b k 1 20 W qc hc
  have ne : ((xs.length : Int) != nT) = !qd := by rw [← hd.out, Bool.eq_iff_iff]; simp
  have wT : Value.int .i64 (wrap64 (n + (es.length : Int))) = Value.int .i64 nT := by rw [HnT.out]
  cases qg
  · have Hr3 : Hid (false = r) := by show _ = _; rw [← Hr2.out]; rfl
    have Hv3 : Hid (1 = v) := by show _ = _; rw [← Hv2.out]; rfl
    clear hr hx hg hc hd Hr Hv Hr2 Hv2 HnT cc
    generalize es.length = L at *
    generalize xs.length = M at *
    go_enter Try.func36, Try.ntmps36
    go_wp2_with fail
    refine (cs _ (by (repeat' (first | (with_reducible exact Below.refl _ _) | (with_reducible assumption) | (with_reducible refine Below.alloc ?_ ?_ _) | (with_reducible refine Below.drew ?_) | (with_reducible refine below_drewN ?_ _) | (with_reducible refine Below.setCell ?_ ?_ _) | (with_reducible refine Below.trans ?_ (Below.mono (by assumption) ?_)) | (first | omega | (simp only [World.size_alloc, World.size_setCell, World.size_drew]; omega) | (simp; omega) | (simp; done)))))).mono ?_
    rintro e w1 ⟨rfl, hb1⟩
    go_wp2
    go_ret2
    exact ⟨by rw [← Hr3.out, ← Hv3.out]; rfl, by (repeat' (first | (with_reducible exact Below.refl _ _) | (with_reducible assumption) | (with_reducible refine Below.alloc ?_ ?_ _) | (with_reducible refine Below.drew ?_) | (with_reducible refine below_drewN ?_ _) | (with_reducible refine Below.setCell ?_ ?_ _) | (with_reducible refine Below.trans ?_ (Below.mono (by assumption) ?_)) | (first | omega | (simp only [World.size_alloc, World.size_setCell, World.size_drew]; omega) | (simp; omega) | (simp; done))))⟩
  cases qc
  · have Hr3 : Hid (false = r) := by show _ = _; rw [← Hr2.out]; rfl
    have Hv3 : Hid (2 = v) := by show _ = _; rw [← Hv2.out]; rfl
    clear hr hx hg hc hd Hr Hv Hr2 Hv2 HnT
    generalize es.length = L at *
    generalize xs.length = M at *
    go_enter Try.func36, Try.ntmps36
    go_wp2_with fail
    refine (cs _ (by (repeat' (first | (with_reducible exact Below.refl _ _) | (with_reducible assumption) | (with_reducible refine Below.alloc ?_ ?_ _) | (with_reducible refine Below.drew ?_) | (with_reducible refine below_drewN ?_ _) | (with_reducible refine Below.setCell ?_ ?_ _) | (with_reducible refine Below.trans ?_ (Below.mono (by assumption) ?_)) | (first | omega | (simp only [World.size_alloc, World.size_setCell, World.size_drew]; omega) | (simp; omega) | (simp; done)))))).mono ?_
    rintro e w1 ⟨rfl, hb1⟩
    simp only [World.size_alloc, World.size_setCell, World.size_drew] at hb1; have B1 : Below w.heap.size w w1 := by (repeat' (first | (with_reducible exact Below.refl _ _) | (with_reducible assumption) | (with_reducible refine Below.alloc ?_ ?_ _) | (with_reducible refine Below.drew ?_) | (with_reducible refine below_drewN ?_ _) | (with_reducible refine Below.setCell ?_ ?_ _) | (with_reducible refine Below.trans ?_ (Below.mono (by assumption) ?_)) | (first | omega | (simp only [World.size_alloc, World.size_setCell, World.size_drew]; omega) | (simp; omega) | (simp; done))))
    have K1 : Blk w1 w.heap.size 30 #[.int .i64 n, .slice A L c] := (Blk.new' _ rfl).below hb1 (by omega)
    have d10 := K1.cellAt 0 _ rfl; have d11 := K1.cellAt 1 _ rfl; have z1 := hb1.size; simp only [World.size_alloc, World.size_setCell, World.size_drew] at z1
    go_wp2_with fail
    refine (cc _).mono ?_
    rintro e w2 ⟨rfl, rfl⟩
    go_wp2
    go_ret2
    exact ⟨by rw [← Hr3.out, ← Hv3.out]; rfl, by (repeat' (first | (with_reducible exact Below.refl _ _) | (with_reducible assumption) | (with_reducible refine Below.alloc ?_ ?_ _) | (with_reducible refine Below.drew ?_) | (with_reducible refine below_drewN ?_ _) | (with_reducible refine Below.setCell ?_ ?_ _) | (with_reducible refine Below.trans ?_ (Below.mono (by assumption) ?_)) | (first | omega | (simp only [World.size_alloc, World.size_setCell, World.size_drew]; omega) | (simp; omega) | (simp; done))))⟩
  cases qd
  · have Hr3 : Hid (false = r) := by show _ = _; rw [← Hr2.out]; rfl
    have Hv3 : Hid (2 = v) := by show _ = _; rw [← Hv2.out]; rfl
    clear hr hx hg hc hd Hr Hv Hr2 Hv2 HnT
    simp only [Bool.not_false] at ne
    generalize es.length = L at *
    generalize xs.length = M at *
    go_enter Try.func36, Try.ntmps36
    go_wp2_with fail
    refine (cs _ (by (repeat' (first | (with_reducible exact Below.refl _ _) | (with_reducible assumption) | (with_reducible refine Below.alloc ?_ ?_ _) | (with_reducible refine Below.drew ?_) | (with_reducible refine below_drewN ?_ _) | (with_reducible refine Below.setCell ?_ ?_ _) | (with_reducible refine Below.trans ?_ (Below.mono (by assumption) ?_)) | (first | omega | (simp only [World.size_alloc, World.size_setCell, World.size_drew]; omega) | (simp; omega) | (simp; done)))))).mono ?_
    rintro e w1 ⟨rfl, hb1⟩
    simp only [World.size_alloc, World.size_setCell, World.size_drew] at hb1; have B1 : Below w.heap.size w w1 := by (repeat' (first | (with_reducible exact Below.refl _ _) | (with_reducible assumption) | (with_reducible refine Below.alloc ?_ ?_ _) | (with_reducible refine Below.drew ?_) | (with_reducible refine below_drewN ?_ _) | (with_reducible refine Below.setCell ?_ ?_ _) | (with_reducible refine Below.trans ?_ (Below.mono (by assumption) ?_)) | (first | omega | (simp only [World.size_alloc, World.size_setCell, World.size_drew]; omega) | (simp; omega) | (simp; done))))
    have K1 : Blk w1 w.heap.size 30 #[.int .i64 n, .slice A L c] := (Blk.new' _ rfl).below hb1 (by omega)
    have d10 := K1.cellAt 0 _ rfl; have d11 := K1.cellAt 1 _ rfl; have z1 := hb1.size; simp only [World.size_alloc, World.size_setCell, World.size_drew] at z1
    go_wp2_with fail
    refine (cc _).mono ?_
    rintro e w2 ⟨rfl, rfl⟩
    go_wp2
    go_ret2
    exact ⟨by rw [← Hr3.out, ← Hv3.out]; rfl, by (repeat' (first | (with_reducible exact Below.refl _ _) | (with_reducible assumption) | (with_reducible refine Below.alloc ?_ ?_ _) | (with_reducible refine Below.drew ?_) | (with_reducible refine below_drewN ?_ _) | (with_reducible refine Below.setCell ?_ ?_ _) | (with_reducible refine Below.trans ?_ (Below.mono (by assumption) ?_)) | (first | omega | (simp only [World.size_alloc, World.size_setCell, World.size_drew]; omega) | (simp; omega) | (simp; done))))⟩
  · have b1 := inB_true.1 hc.out
    obtain ⟨h1, h2⟩ := isGraphB_n hg.out
    have b2 := isGraphB_len hg.out
    have hin := isGraphB_in hg.out
    obtain ⟨N, rfl⟩ : ∃ m : Nat, n = m := ⟨n.toNat, by omega⟩
    have b3 : xs.length = N + es.length := by
      have h3 : (xs.length : Int) = nT := by simpa using hd.out
      rw [← HnT.out, wrap64_small (by omega) (by omega)] at h3
      omega
    rw [Int.toNat_natCast] at Hr2 hin
    obtain ⟨T, HT⟩ : ∃ T, Hid (N + es.length = T) := ⟨_, rfl⟩
    rw [HT.out] at b3 Hr2
    have Hr3 : Hid (properB T xs k (totalAre N es) (fun x y => decide (x = y)) = r) := by show _ = _; rw [← Hr2.out]; simp
    have Hv3 : Hid (0 = v) := by show _ = _; rw [← Hv2.out]; rfl
    have hT2 : T ≤ 1000 := by have := HT.out; omega
    have cr := fun (W : World) (hW : Below w.heap.size w W) => l08RowsT_b N T A c es W HT (by omega) (by omega) (by omega) hin (hr.below hW)
    have cp := fun (W : World) (hW : Below w.heap.size w W) (g c' : Nat) (R : Nat → Nat) (M : Nat → Nat → Int) (hM : Mat W g 0 T T R M) (hrel : RelP T M (nearT N es es.length 0)) =>
      l08Proper_b g 0 T c' R M k B cb xs W r (by show _ = _; rw [properB_congr (are' := totalAre N es) (fun i j h1 h2 => by rw [Bool.eq_iff_iff, decide_eq_true_eq, (hrel i j h1 h2).2, nearT_total h1 (by have := HT.out; omega)])]; exact Hr3.out) b3 (by omega) (by omega) (hx.below hW) hM
    have hnT : nT = (T : Int) := by
      have h3 : (xs.length : Int) = nT := by simpa using hd.out
      omega
    subst hnT
    rw [b3] at ne ⊢
    have Hrel : ∃ Q, Hid (nearT N es es.length 0 = Q) := ⟨_, rfl⟩
    obtain ⟨Q, HQ⟩ := Hrel
    simp only [HQ.out] at cr cp
    clear hr hx hg hc hd Hr Hv Hr2 Hv2 b3 hlx Hr3 b1 b2 hin HT h1 h2 hT2 HnT HQ
    simp only [Bool.not_true] at ne
    generalize es.length = L at *
    go_enter Try.func36, Try.ntmps36
    go_wp2_with fail
    refine (cs _ (by (repeat' (first | (with_reducible exact Below.refl _ _) | (with_reducible assumption) | (with_reducible refine Below.alloc ?_ ?_ _) | (with_reducible refine Below.drew ?_) | (with_reducible refine below_drewN ?_ _) | (with_reducible refine Below.setCell ?_ ?_ _) | (with_reducible refine Below.trans ?_ (Below.mono (by assumption) ?_)) | (first | omega | (simp only [World.size_alloc, World.size_setCell, World.size_drew]; omega) | (simp; omega) | (simp; done)))))).mono ?_
    rintro e w1 ⟨rfl, hb1⟩
    simp only [World.size_alloc, World.size_setCell, World.size_drew] at hb1; have B1 : Below w.heap.size w w1 := by (repeat' (first | (with_reducible exact Below.refl _ _) | (with_reducible assumption) | (with_reducible refine Below.alloc ?_ ?_ _) | (with_reducible refine Below.drew ?_) | (with_reducible refine below_drewN ?_ _) | (with_reducible refine Below.setCell ?_ ?_ _) | (with_reducible refine Below.trans ?_ (Below.mono (by assumption) ?_)) | (first | omega | (simp only [World.size_alloc, World.size_setCell, World.size_drew]; omega) | (simp; omega) | (simp; done))))
    have K1 : Blk w1 w.heap.size 30 #[.int .i64 (N : Int), .slice A L c] := (Blk.new' _ rfl).below hb1 (by omega)
    have d10 := K1.cellAt 0 _ rfl; have d11 := K1.cellAt 1 _ rfl; have z1 := hb1.size; simp only [World.size_alloc, World.size_setCell, World.size_drew] at z1
    go_wp2_with fail
    refine (cc _).mono ?_
    rintro e w2 ⟨rfl, rfl⟩
    go_wp2_with fail
    refine (cr _ B1).mono ?_
    rintro e w3 ⟨g, c', R, M, rfl, hM, hrel, hb3⟩
    have B3 := B1.trans (hb3.mono B1.size)
    have c4 := cp _ B3 _ c' _ _ hM hrel
    clear hM hrel
    go_wp2_with fail
    refine c4.mono ?_
    rintro e w4 ⟨rfl, hb4⟩
    go_wp2
    go_ret2
    exact ⟨by rw [← Hv3.out]; rfl, B3.trans (hb4.mono B3.size)⟩
end Go.Proofs.Ytkpnplldnihalaa
