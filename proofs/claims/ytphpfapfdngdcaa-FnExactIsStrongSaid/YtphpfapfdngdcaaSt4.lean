/- The reference's IsStrong. -/
import Derived.Test.YtphpfapfdngdcaaSt3
namespace Go.Proofs.Ytphpfapfdngdcaa
open Go.RowKit
set_option linter.unusedSimpArgs false
set_option linter.unusedVariables false
set_option maxRecDepth 20000

theorem properB_congr {m : Nat} {xs : List Int} {k : Int} {are are' : Nat → Nat → Bool} {bad : Int → Int → Bool} (h : ∀ i j, j < i → i < m → are i j = are' i j) : properB m xs k are bad = properB m xs k are' bad := by
  have hn : ∀ i, i < m → nbr are i = nbr are' i := fun i hi => by
    unfold nbr nbrTo
    congr 1
    refine List.filter_congr fun j hj => h i j (by simpa using hj) hi
  have key : ∀ i, i < m → properAt xs k are bad i = properAt xs k are' bad i := fun i hi => by unfold properAt; rw [hn i hi]
  rw [Bool.eq_iff_iff, properB, properB, List.all_eq_true, List.all_eq_true]
  constructor
  · intro h1 i hi; rw [← key i (by simpa using hi)]; exact h1 i hi
  · intro h1 i hi; rw [key i (by simpa using hi)]; exact h1 i hi
theorem rowsAt_are (rel : Nat → Nat → Bool) (m i j : Nat) (h : j < i) (hi : i < m) : decide (rowsAt rel m 0 i j = 1) = rel i j := by
  have a : max i j = i := by omega
  have b : min i j = j := by omega
  cases hr : rel i j <;> simp [rowsAt, metB, a, b, hr, show ¬ i = j by omega, hi]

set_option maxHeartbeats 4000000 in
theorem specStrong_b (n : Int) (A : Option Addr) (c : Nat) (es : List (Int × Int)) (k : Int) (B : Option Addr) (cb : Nat) (xs : List Int) (w : World) (hl : es.length ≤ 1048576) (hlx : xs.length ≤ 1048576) (hr : RdE w A es) (hx : RdI w B xs) (r : Bool) (v : Int) (Hr : Hid ((stOf n es k xs).1 = r)) (Hv : Hid ((stOf n es k xs).2 = v)) :
    Calls Try.prog 22 #[.agg #[.int .i64 n, .slice A es.length c], .int .i64 k, .slice B xs.length cb] w fun e w' => e = .returned (.tuple #[.bool r, .int .i64 v]) ∧ Below w.heap.size w w' := by
  obtain ⟨qg, hg⟩ : ∃ q, Hid (isGraphB n es = q) := ⟨_, rfl⟩
  obtain ⟨qc, hc⟩ : ∃ q, Hid (inB k 1 20 = q) := ⟨_, rfl⟩
  obtain ⟨qd, hd⟩ : ∃ q, Hid (decide (xs.length = es.length) = q) := ⟨_, rfl⟩
  have Hr2 : Hid ((qg && ((qc && qd) && properB es.length xs k (closeAre es) (fun x y => decide (x = y)))) = r) := by show _ = _; rw [← Hr.out, stOf, toldB, hg.out, hc.out, hd.out]
  have Hv2 : Hid (gcode qg (qc && qd) = v) := by show _ = _; rw [← Hv.out, stOf, toldB, hg.out, hc.out, hd.out]
  have cs := fun W (hW : Below w.heap.size w W) => l01Is_b n A c es W qg hg hl (hr.below hW)
  have cc := fun W => l01In_b k 1 20 W qc hc
  have ne : ((xs.length : Int) != (es.length : Int)) = !qd := by rw [← hd.out, Bool.eq_iff_iff]; simp; omega
  cases qg
  · have Hr3 : Hid (false = r) := by show _ = _; rw [← Hr2.out]; rfl
    have Hv3 : Hid (1 = v) := by show _ = _; rw [← Hv2.out]; rfl
    clear hr hx hg hc hd Hr Hv Hr2 Hv2 cc
    generalize es.length = L at *
    generalize xs.length = M at *
    go_enter Try.func22, Try.ntmps22
    go_wp2_with fail
    refine (cs _ (by (repeat' (first | (with_reducible exact Below.refl _ _) | (with_reducible assumption) | (with_reducible refine Below.alloc ?_ ?_ _) | (with_reducible refine Below.drew ?_) | (with_reducible refine below_drewN ?_ _) | (with_reducible refine Below.setCell ?_ ?_ _) | (with_reducible refine Below.trans ?_ (Below.mono (by assumption) ?_)) | (first | omega | (simp only [World.size_alloc, World.size_setCell, World.size_drew]; omega) | (simp; omega) | (simp; done)))))).mono ?_
    rintro e w1 ⟨rfl, hb1⟩
    go_wp2
    go_ret2
    exact ⟨by rw [← Hr3.out, ← Hv3.out]; rfl, by (repeat' (first | (with_reducible exact Below.refl _ _) | (with_reducible assumption) | (with_reducible refine Below.alloc ?_ ?_ _) | (with_reducible refine Below.drew ?_) | (with_reducible refine below_drewN ?_ _) | (with_reducible refine Below.setCell ?_ ?_ _) | (with_reducible refine Below.trans ?_ (Below.mono (by assumption) ?_)) | (first | omega | (simp only [World.size_alloc, World.size_setCell, World.size_drew]; omega) | (simp; omega) | (simp; done))))⟩
  cases qc
  · have Hr3 : Hid (false = r) := by show _ = _; rw [← Hr2.out]; rfl
    have Hv3 : Hid (2 = v) := by show _ = _; rw [← Hv2.out]; rfl
    clear hr hx hg hc hd Hr Hv Hr2 Hv2
    generalize es.length = L at *
    generalize xs.length = M at *
    go_enter Try.func22, Try.ntmps22
    go_wp2_with fail
    refine (cs _ (by (repeat' (first | (with_reducible exact Below.refl _ _) | (with_reducible assumption) | (with_reducible refine Below.alloc ?_ ?_ _) | (with_reducible refine Below.drew ?_) | (with_reducible refine below_drewN ?_ _) | (with_reducible refine Below.setCell ?_ ?_ _) | (with_reducible refine Below.trans ?_ (Below.mono (by assumption) ?_)) | (first | omega | (simp only [World.size_alloc, World.size_setCell, World.size_drew]; omega) | (simp; omega) | (simp; done)))))).mono ?_
    rintro e w1 ⟨rfl, hb1⟩
    simp only [World.size_alloc, World.size_setCell, World.size_drew] at hb1; have B1 : Below w.heap.size w w1 := by (repeat' (first | (with_reducible exact Below.refl _ _) | (with_reducible assumption) | (with_reducible refine Below.alloc ?_ ?_ _) | (with_reducible refine Below.drew ?_) | (with_reducible refine below_drewN ?_ _) | (with_reducible refine Below.setCell ?_ ?_ _) | (with_reducible refine Below.trans ?_ (Below.mono (by assumption) ?_)) | (first | omega | (simp only [World.size_alloc, World.size_setCell, World.size_drew]; omega) | (simp; omega) | (simp; done))))
    have K1 : Blk w1 w.heap.size 30 #[.int .i64 n, .slice A L c] := (Blk.new' _ rfl).below hb1 (by omega)
    have d10 := K1.cellAt 0 _ rfl; have d11 := K1.cellAt 1 _ rfl; have z1 := hb1.size; simp only [World.size_alloc, World.size_setCell, World.size_drew] at z1
    go_wp2_with fail
    refine (cc _).mono ?_
    rintro e w2 ⟨rfl, rfl⟩
    go_wp2
    go_ret2
    exact ⟨by rw [← Hr3.out, ← Hv3.out]; rfl, by (repeat' (first | (with_reducible exact Below.refl _ _) | (with_reducible assumption) | (with_reducible refine Below.alloc ?_ ?_ _) | (with_reducible refine Below.drew ?_) | (with_reducible refine below_drewN ?_ _) | (with_reducible refine Below.setCell ?_ ?_ _) | (with_reducible refine Below.trans ?_ (Below.mono (by assumption) ?_)) | (first | omega | (simp only [World.size_alloc, World.size_setCell, World.size_drew]; omega) | (simp; omega) | (simp; done))))⟩
  cases qd
  · have Hr3 : Hid (false = r) := by show _ = _; rw [← Hr2.out]; rfl
    have Hv3 : Hid (2 = v) := by show _ = _; rw [← Hv2.out]; rfl
    clear hr hx hg hc hd Hr Hv Hr2 Hv2
    simp only [Bool.not_false] at ne
    generalize es.length = L at *
    generalize xs.length = M at *
    go_enter Try.func22, Try.ntmps22
    go_wp2_with fail
    refine (cs _ (by (repeat' (first | (with_reducible exact Below.refl _ _) | (with_reducible assumption) | (with_reducible refine Below.alloc ?_ ?_ _) | (with_reducible refine Below.drew ?_) | (with_reducible refine below_drewN ?_ _) | (with_reducible refine Below.setCell ?_ ?_ _) | (with_reducible refine Below.trans ?_ (Below.mono (by assumption) ?_)) | (first | omega | (simp only [World.size_alloc, World.size_setCell, World.size_drew]; omega) | (simp; omega) | (simp; done)))))).mono ?_
    rintro e w1 ⟨rfl, hb1⟩
    simp only [World.size_alloc, World.size_setCell, World.size_drew] at hb1; have B1 : Below w.heap.size w w1 := by (repeat' (first | (with_reducible exact Below.refl _ _) | (with_reducible assumption) | (with_reducible refine Below.alloc ?_ ?_ _) | (with_reducible refine Below.drew ?_) | (with_reducible refine below_drewN ?_ _) | (with_reducible refine Below.setCell ?_ ?_ _) | (with_reducible refine Below.trans ?_ (Below.mono (by assumption) ?_)) | (first | omega | (simp only [World.size_alloc, World.size_setCell, World.size_drew]; omega) | (simp; omega) | (simp; done))))
    have K1 : Blk w1 w.heap.size 30 #[.int .i64 n, .slice A L c] := (Blk.new' _ rfl).below hb1 (by omega)
    have d10 := K1.cellAt 0 _ rfl; have d11 := K1.cellAt 1 _ rfl; have z1 := hb1.size; simp only [World.size_alloc, World.size_setCell, World.size_drew] at z1
    go_wp2_with fail
    refine (cc _).mono ?_
    rintro e w2 ⟨rfl, rfl⟩
    go_wp2
    go_ret2
    exact ⟨by rw [← Hr3.out, ← Hv3.out]; rfl, by (repeat' (first | (with_reducible exact Below.refl _ _) | (with_reducible assumption) | (with_reducible refine Below.alloc ?_ ?_ _) | (with_reducible refine Below.drew ?_) | (with_reducible refine below_drewN ?_ _) | (with_reducible refine Below.setCell ?_ ?_ _) | (with_reducible refine Below.trans ?_ (Below.mono (by assumption) ?_)) | (first | omega | (simp only [World.size_alloc, World.size_setCell, World.size_drew]; omega) | (simp; omega) | (simp; done))))⟩
  · have b1 := inB_true.1 hc.out
    have b3 : xs.length = es.length := by simpa using hd.out
    have b2 := isGraphB_len hg.out
    have b4 : 0 < es.length := by
      have h1 := isGraphB_n hg.out
      have h2 := hg.out
      simp only [isGraphB, Bool.and_eq_true] at h2
      have := (areEdgesB_in h2.1).2.2.1
      omega
    have Hr3 : Hid (properB es.length xs k (closeAre es) (fun x y => decide (x = y)) = r) := by show _ = _; rw [← Hr2.out]; simp
    have Hv3 : Hid (0 = v) := by show _ = _; rw [← Hv2.out]; rfl
    have cr := fun (W : World) (hW : Below w.heap.size w W) => l08RowsS_b n A c es W b4 (by omega) (hr.below hW)
    have cp := fun (W : World) (hW : Below w.heap.size w W) (g c' : Nat) (R : Nat → Nat) (hM : Mat W g 0 es.length es.length R (rowsAt (closeAre es) es.length 0)) =>
      l08Proper_b g 0 es.length c' R _ k B cb xs W r (by show _ = _; rw [properB_congr (fun i j h1 h2 => rowsAt_are (closeAre es) es.length i j h1 h2)]; exact Hr3.out) b3 (by omega) (by omega) (hx.below hW) hM
    rw [b3] at ne ⊢
    clear hr hx hg hc hd Hr Hv Hr2 Hv2 b3 hlx Hr3 b1 b2 b4
    simp only [Bool.not_true] at ne
    generalize rowsAt (closeAre es) es.length 0 = X at *
    generalize es.length = L at *
    go_enter Try.func22, Try.ntmps22
    go_wp2_with fail
    refine (cs _ (by (repeat' (first | (with_reducible exact Below.refl _ _) | (with_reducible assumption) | (with_reducible refine Below.alloc ?_ ?_ _) | (with_reducible refine Below.drew ?_) | (with_reducible refine below_drewN ?_ _) | (with_reducible refine Below.setCell ?_ ?_ _) | (with_reducible refine Below.trans ?_ (Below.mono (by assumption) ?_)) | (first | omega | (simp only [World.size_alloc, World.size_setCell, World.size_drew]; omega) | (simp; omega) | (simp; done)))))).mono ?_
    rintro e w1 ⟨rfl, hb1⟩
    simp only [World.size_alloc, World.size_setCell, World.size_drew] at hb1; have B1 : Below w.heap.size w w1 := by (repeat' (first | (with_reducible exact Below.refl _ _) | (with_reducible assumption) | (with_reducible refine Below.alloc ?_ ?_ _) | (with_reducible refine Below.drew ?_) | (with_reducible refine below_drewN ?_ _) | (with_reducible refine Below.setCell ?_ ?_ _) | (with_reducible refine Below.trans ?_ (Below.mono (by assumption) ?_)) | (first | omega | (simp only [World.size_alloc, World.size_setCell, World.size_drew]; omega) | (simp; omega) | (simp; done))))
    have K1 : Blk w1 w.heap.size 30 #[.int .i64 n, .slice A L c] := (Blk.new' _ rfl).below hb1 (by omega)
    have d10 := K1.cellAt 0 _ rfl; have d11 := K1.cellAt 1 _ rfl; have z1 := hb1.size; simp only [World.size_alloc, World.size_setCell, World.size_drew] at z1
    go_wp2_with fail
    refine (cc _).mono ?_
    rintro e w2 ⟨rfl, rfl⟩
    go_wp2_with fail
    refine (cr _ B1).mono ?_
    rintro e w3 ⟨g, c', R, rfl, hM, hb3⟩
    have B3 := B1.trans (hb3.mono B1.size)
    go_wp2_with fail
    refine (cp _ B3 _ _ _ hM).mono ?_
    rintro e w4 ⟨rfl, hb4⟩
    clear hM
    go_wp2
    go_ret2
    exact ⟨by rw [← Hv3.out]; rfl, B3.trans (hb4.mono B3.size)⟩
end Go.Proofs.Ytphpfapfdngdcaa
