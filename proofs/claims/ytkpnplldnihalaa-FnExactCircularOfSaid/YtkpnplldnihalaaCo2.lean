/- CircularOf: what it returns; the program's and the reference's walks. -/
import Derived.Test.YtkpnplldnihalaaCo1
import Derived.Test.YtkpnplldnihalaaLp3
import Derived.Test.YtkpnplldnihalaaEx5
namespace Go.Proofs.Ytkpnplldnihalaa
open Go.RowKit
set_option linter.unusedSimpArgs false
set_option linter.unusedVariables false
set_option maxRecDepth 20000

/-- The least circular colouring, if there is one. -/
def coFind (es : List (Int × Int)) (k d : Int) : Option (List Int) := fillO (nearAre es) (fun x y => !apartB k d x y) (candC k) es.length []
/-- What CircularOf returns. -/
def coOf (n : Int) (es : List (Int × Int)) (k d : Int) : List Int × Int :=
  if scode (isGraphB n es) (circB k d) n 10 = 0 then ((coFind es k d).getD [], if (coFind es k d).isSome then 0 else 4) else ([], scode (isGraphB n es) (circB k d) n 10)
theorem scode_zero2 {qg qc : Bool} {n m : Int} (h : scode qg qc n m = 0) : qg = true ∧ qc = true ∧ n ≤ m := by
  unfold scode at h
  cases qg <;> cases qc <;> simp [gcode] at h ⊢
  omega

set_option maxHeartbeats 4000000 in
theorem implCo_b (n : Int) (A : Option Addr) (c : Nat) (es : List (Int × Int)) (k d : Int) (w : World) (hl : es.length ≤ 1048576) (hr : RdE w A es) (xs : List Int) (v : Int) (Hr : Hid ((coOf n es k d).1 = xs)) (Hv : Hid ((coOf n es k d).2 = v)) :
    Calls Try.prog 39 #[.agg #[.int .i64 n, .slice A es.length c], .int .i64 k, .int .i64 d] w fun e w' => RetI w' w.heap.size e xs (.int .i64 v) ∧ Below w.heap.size w w' := by
  obtain ⟨qg, hg⟩ : ∃ q, Hid (isGraphB n es = q) := ⟨_, rfl⟩
  obtain ⟨qc, hc⟩ : ∃ q, Hid (circB k d = q) := ⟨_, rfl⟩
  obtain ⟨u, Hu⟩ : ∃ u, Hid (scode qg qc n 10 = u) := ⟨_, rfl⟩
  have cc := fun W => isCircle_b k d W qc hc
  have cg := fun W (hW : Below w.heap.size w W) => smallCode_b n A c es 10 W qg qc u hg Hu hl (hr.below hW)
  by_cases h : u = 0
  · subst h
    obtain ⟨rfl, rfl, hn⟩ := scode_zero2 Hu.out
    have b1 := circB_bd hc.out
    have b2 := isGraphB_len hg.out
    obtain ⟨o, Ho⟩ : ∃ o, Hid (coFind es k d = o) := ⟨_, rfl⟩
    have Hr2 : Hid (o.getD [] = xs) := by show _ = _; rw [← Hr.out, coOf, hg.out, hc.out, if_pos Hu.out, Ho.out]
    have Hv2 : Hid ((if o.isSome = true then 0 else 4) = v) := by show _ = _; rw [← Hv.out, coOf, hg.out, hc.out, if_pos Hu.out, Ho.out]
    have Hlen : Hid (∀ ys, o = some ys → ys.length = es.length) := fun ys h9 => by
      have := fillO_len _ _ _ (Ho.out.trans h9)
      simpa using this
    have cn := fun W (hW : Below w.heap.size w W) => nearEdges_b n A c es W (by omega) (hr.below hW)
    have cp := fun (g0 : Nat) (W : World) (hW : Below w.heap.size w W) (k0 : Blk W g0 2 #[.int .i64 k]) (k1 : Blk W (g0 + 1) 2 #[.int .i64 d]) (A' : Option Addr) (c' : Nat) (hX : RdL W A' (nbrs (nearAre es) es.length)) =>
      leastProper_b es.length c' 119 k A' #[.pointer (some ⟨g0 + 1, 0, none⟩), .pointer (some ⟨g0, 0, none⟩)] false (nearAre es) (fun x y => !apartB k d x y) W (by omega) (by omega) hX ent_circle1
        (fun W' x y hx' hy' hW' => by
          have bx := inB_true.1 hx'
          have by' := inB_true.1 hy'
          exact (circle1_b g0 (g0 + 1) k d x y W' _ rfl (by omega) (by omega) (by omega) (by omega) ((hW'.cell (p := ⟨g0, 0, none⟩) k0.lt).trans (k0.cellAt 0 _ rfl)) ((hW'.cell (p := ⟨g0 + 1, 0, none⟩) k1.lt).trans (k1.cellAt 0 _ rfl))).mono fun e w2 ⟨h1, h2⟩ => ⟨h1, h2 ▸ Below.refl _ _⟩)
        o (Ho.out ▸ rfl)
    have ck := fun W => circle_b k d W
    clear hr hg hc Hr Hv b1 b2 Hu Ho
    generalize nbrs (nearAre es) es.length = X at *
    generalize es.length = L at *
    go_enter Try.func39, Try.ntmps39
    go_wp2
    refine wp_region_noPanic ?_
    refine wp_region_held_drew (S := (fun w' => w'.cell? ⟨w.heap.size, 0, none⟩ = some (.int .i64 n) ∧ w'.cell? ⟨w.heap.size, 1, none⟩ = some (.slice A L c))) (by kernel_rfl) ?_ (fun hHeld => ?_)
    · (try dsimp only); (first | go_keep | (obtain ⟨hq, _⟩ := bcell ‹Below _ _ _›; (repeat' apply And.intro) <;> (rw [hq _ _ (by first | assumption | omega | (simp; done) | (simp; omega) | (simp; assumption))] <;> (first | assumption | (simp [*]; done)))))
    refine wpAnyH_take_d (i := 0) (d := some 11) (v := ?v1) rfl rfl (by kernel_rfl) (by kernel_rfl) (by kernel_rfl) (fun _ _ _ h => h) (Or.inl ⟨by kernel_rfl, ?y1⟩) (by assumption) ?_
    case y1 => (intro w' hSw; (try dsimp only at hSw); go_simp; try with_reducible rfl)
    try simp only [Act.put, List.setIfInBounds_toArray, List.set_cons_zero, List.set_cons_succ]
    refine wpAnyH_take_d (i := 1) (d := some 12) (v := ?v2) rfl rfl (by kernel_rfl) (by kernel_rfl) (by kernel_rfl) (fun _ _ _ h => h) (Or.inl ⟨by kernel_rfl, ?y2⟩) (by assumption) ?_
    case y2 => (intro w' hSw; (try dsimp only at hSw); go_simp; try with_reducible rfl)
    try simp only [Act.put, List.setIfInBounds_toArray, List.set_cons_zero, List.set_cons_succ]
    refine wpAnyH_take_d (i := 2) (d := some 13) (v := ?v3) rfl rfl (by kernel_rfl) (by kernel_rfl) (by kernel_rfl) (fun _ _ _ h => h) (Or.inl ⟨by kernel_rfl, ?y3⟩) (by assumption) ?_
    case y3 => (intro w' hSw; (try dsimp only at hSw); go_simp; try with_reducible rfl)
    try simp only [Act.put, List.setIfInBounds_toArray, List.set_cons_zero, List.set_cons_succ]
    refine wpAnyH_ready (rs := [3]) (by kernel_rfl) (by simp) ?_
    refine AllReadyH.cons rfl (fun K hK => ?_) AllReadyH.nil
    go_simp
    refine (cc _).mono ?_; rintro e w1 ⟨rfl, rfl⟩
    refine hK.out _ _ ?s4 (fun hHeld4 => ?_)
    case s4 => ((try dsimp only); (first | go_keep | (obtain ⟨hq, _⟩ := bcell ‹Below _ _ _›; (repeat' apply And.intro) <;> (rw [hq _ _ (by first | assumption | omega | (simp; done) | (simp; omega) | (simp; assumption))] <;> (first | assumption | (simp [*]; done))))))
    clear hK K hHeld
    have hHeld := hHeld4; clear hHeld4
    try simp only [Act.put, List.setIfInBounds_toArray, List.set_cons_zero, List.set_cons_succ]
    refine wpAnyH_ready (rs := [4]) (by kernel_rfl) (by simp) ?_
    refine AllReadyH.cons rfl (fun K hK => ?_) AllReadyH.nil
    go_simp
    refine (cg _ (by (repeat' (first | (with_reducible exact Below.refl _ _) | (with_reducible assumption) | (with_reducible refine Below.alloc ?_ ?_ _) | (with_reducible refine Below.drew ?_) | (with_reducible refine below_drewN ?_ _) | (with_reducible refine Below.setCell ?_ ?_ _) | (with_reducible refine Below.trans ?_ (Below.mono (by assumption) ?_)) | (first | omega | (simp only [World.size_alloc, World.size_setCell, World.size_drew]; omega) | (simp; omega) | (simp; done)))))).mono ?_; rintro e w3 ⟨rfl, hb3⟩
    refine hK.out _ _ ?s5 (fun hHeld5 => ?_)
    case s5 => ((try dsimp only); (first | go_keep | (obtain ⟨hq, _⟩ := bcell ‹Below _ _ _›; (repeat' apply And.intro) <;> (rw [hq _ _ (by first | assumption | omega | (simp; done) | (simp; omega) | (simp; assumption))] <;> (first | assumption | (simp [*]; done))))))
    clear hK K hHeld
    have hHeld := hHeld5; clear hHeld5
    try simp only [Act.put, List.setIfInBounds_toArray, List.set_cons_zero, List.set_cons_succ]
    refine wpAnyH_take_d (i := 5) (d := some 8) (v := ?v6) rfl rfl (by kernel_rfl) (by kernel_rfl) (by kernel_rfl) (fun _ _ _ h => h) (Or.inl ⟨by kernel_rfl, ?y6⟩) (by assumption) ?_
    case y6 => (intro w' hSw; (try dsimp only at hSw); go_simp; try with_reducible rfl)
    try simp only [Act.put, List.setIfInBounds_toArray, List.set_cons_zero, List.set_cons_succ]
    refine wpAnyH_done (by kernel_rfl) ?_ _
    refine NoPanic.normal ?_
    obtain ⟨hA, hB⟩ := hHeld
    have z3 := hb3.size
    have B3 : Below w.heap.size w w3 := by (repeat' (first | (with_reducible exact Below.refl _ _) | (with_reducible assumption) | (with_reducible refine Below.alloc ?_ ?_ _) | (with_reducible refine Below.drew ?_) | (with_reducible refine below_drewN ?_ _) | (with_reducible refine Below.setCell ?_ ?_ _) | (with_reducible refine Below.trans ?_ (Below.mono (by assumption) ?_)) | (first | omega | (simp only [World.size_alloc, World.size_setCell, World.size_drew]; omega) | (simp; omega) | (simp; done))))
    go_wp2_with fail
    refine (cn _ B3).mono ?_
    rintro e w4 ⟨g, rfl, hX, hb4⟩
    have B4 : Below w.heap.size w w4 := B3.trans (hb4.mono B3.size)
    go_wp2_with fail
    refine (ck _).mono ?_
    rintro e w5 ⟨rfl, k0, k1, hb5⟩
    have B5 : Below w.heap.size w w5 := B4.trans (hb5.mono B4.size)
    go_wp2_with fail
    refine (cp _ _ B5 k0 k1 _ _ (hX.below hb5)).mono ?_
    rintro e w6 ⟨rfl, hb6, ys, hQ, hyl, hfin⟩
    have B6 : Hid (Below w.heap.size w w6) := B5.trans (hb6.mono B5.size)
    have z5 : Hid (w.heap.size ≤ w5.heap.size + 4) := by show _ ≤ _; have := B5.size; omega
    have HQ := Lib.hid hQ
    have HF := Lib.hid hfin
    clear k0 k1 hX hQ hfin hb6 hb5 hb4 hb3 B3 B4 B5
    cases o with
    | none =>
      have os : (none : Option (List Int)).isSome = false := rfl
      rw [os]
      go_wp2
      go_ret2
      exact ⟨RetI.none Hr2.out.symm (by rw [← Hv2.out]; rfl), B6.out⟩
    | some zs =>
      have os : (some zs : Option (List Int)).isSome = true := rfl
      rw [os]
      go_wp2
      go_ret2
      refine ⟨RetI.mk ((blkI_fr HQ.out).mono z5.out |> fun h9 => ?_) ?_ (by rw [← Hv2.out]; rfl), B6.out⟩
      · rw [← Hr2.out, show (some zs : Option (List Int)).getD [] = zs from rfl, ← HF.out zs rfl]; exact h9
      · rw [← Hr2.out]; exact Hlen.out zs rfl
  · have Hr2 : Hid ([] = xs) := by show _ = _; rw [← Hr.out, coOf, hg.out, hc.out, if_neg (by rw [Hu.out]; exact h)]
    have Hv2 : Hid (u = v) := by show _ = _; rw [← Hv.out, coOf, hg.out, hc.out, if_neg (by rw [Hu.out]; exact h), Hu.out]
    have g1 : (u != 0) = true := by simpa using h
    have g2 : (u == 0) = false := by simpa using h
    clear Hr Hv hr hg hc Hu
    generalize es.length = L at *
    go_enter Try.func39, Try.ntmps39
    go_wp2
    refine wp_region_noPanic ?_
    refine wp_region_held_drew (S := (fun w' => w'.cell? ⟨w.heap.size, 0, none⟩ = some (.int .i64 n) ∧ w'.cell? ⟨w.heap.size, 1, none⟩ = some (.slice A L c))) (by kernel_rfl) ?_ (fun hHeld => ?_)
    · (try dsimp only); (first | go_keep | (obtain ⟨hq, _⟩ := bcell ‹Below _ _ _›; (repeat' apply And.intro) <;> (rw [hq _ _ (by first | assumption | omega | (simp; done) | (simp; omega) | (simp; assumption))] <;> (first | assumption | (simp [*]; done)))))
    refine wpAnyH_take_d (i := 0) (d := some 11) (v := ?v7) rfl rfl (by kernel_rfl) (by kernel_rfl) (by kernel_rfl) (fun _ _ _ h => h) (Or.inl ⟨by kernel_rfl, ?y7⟩) (by assumption) ?_
    case y7 => (intro w' hSw; (try dsimp only at hSw); go_simp; try with_reducible rfl)
    try simp only [Act.put, List.setIfInBounds_toArray, List.set_cons_zero, List.set_cons_succ]
    refine wpAnyH_take_d (i := 1) (d := some 12) (v := ?v8) rfl rfl (by kernel_rfl) (by kernel_rfl) (by kernel_rfl) (fun _ _ _ h => h) (Or.inl ⟨by kernel_rfl, ?y8⟩) (by assumption) ?_
    case y8 => (intro w' hSw; (try dsimp only at hSw); go_simp; try with_reducible rfl)
    try simp only [Act.put, List.setIfInBounds_toArray, List.set_cons_zero, List.set_cons_succ]
    refine wpAnyH_take_d (i := 2) (d := some 13) (v := ?v9) rfl rfl (by kernel_rfl) (by kernel_rfl) (by kernel_rfl) (fun _ _ _ h => h) (Or.inl ⟨by kernel_rfl, ?y9⟩) (by assumption) ?_
    case y9 => (intro w' hSw; (try dsimp only at hSw); go_simp; try with_reducible rfl)
    try simp only [Act.put, List.setIfInBounds_toArray, List.set_cons_zero, List.set_cons_succ]
    refine wpAnyH_ready (rs := [3]) (by kernel_rfl) (by simp) ?_
    refine AllReadyH.cons rfl (fun K hK => ?_) AllReadyH.nil
    go_simp
    refine (cc _).mono ?_; rintro e w1 ⟨rfl, rfl⟩
    refine hK.out _ _ ?s10 (fun hHeld10 => ?_)
    case s10 => ((try dsimp only); (first | go_keep | (obtain ⟨hq, _⟩ := bcell ‹Below _ _ _›; (repeat' apply And.intro) <;> (rw [hq _ _ (by first | assumption | omega | (simp; done) | (simp; omega) | (simp; assumption))] <;> (first | assumption | (simp [*]; done))))))
    clear hK K hHeld
    have hHeld := hHeld10; clear hHeld10
    try simp only [Act.put, List.setIfInBounds_toArray, List.set_cons_zero, List.set_cons_succ]
    refine wpAnyH_ready (rs := [4]) (by kernel_rfl) (by simp) ?_
    refine AllReadyH.cons rfl (fun K hK => ?_) AllReadyH.nil
    go_simp
    refine (cg _ (by (repeat' (first | (with_reducible exact Below.refl _ _) | (with_reducible assumption) | (with_reducible refine Below.alloc ?_ ?_ _) | (with_reducible refine Below.drew ?_) | (with_reducible refine below_drewN ?_ _) | (with_reducible refine Below.setCell ?_ ?_ _) | (with_reducible refine Below.trans ?_ (Below.mono (by assumption) ?_)) | (first | omega | (simp only [World.size_alloc, World.size_setCell, World.size_drew]; omega) | (simp; omega) | (simp; done)))))).mono ?_; rintro e w3 ⟨rfl, hb3⟩
    refine hK.out _ _ ?s11 (fun hHeld11 => ?_)
    case s11 => ((try dsimp only); (first | go_keep | (obtain ⟨hq, _⟩ := bcell ‹Below _ _ _›; (repeat' apply And.intro) <;> (rw [hq _ _ (by first | assumption | omega | (simp; done) | (simp; omega) | (simp; assumption))] <;> (first | assumption | (simp [*]; done))))))
    clear hK K hHeld
    have hHeld := hHeld11; clear hHeld11
    try simp only [Act.put, List.setIfInBounds_toArray, List.set_cons_zero, List.set_cons_succ]
    refine wpAnyH_take_d (i := 5) (d := some 8) (v := ?v12) rfl rfl (by kernel_rfl) (by kernel_rfl) (by kernel_rfl) (fun _ _ _ h => h) (Or.inl ⟨by kernel_rfl, ?y12⟩) (by assumption) ?_
    case y12 => (intro w' hSw; (try dsimp only at hSw); go_simp; try with_reducible rfl)
    try simp only [Act.put, List.setIfInBounds_toArray, List.set_cons_zero, List.set_cons_succ]
    refine wpAnyH_done (by kernel_rfl) ?_ _
    refine NoPanic.normal ?_
    go_wp2
    go_ret2
    exact ⟨RetI.none Hr2.out.symm (by rw [← Hv2.out]; rfl), by (repeat' (first | (with_reducible exact Below.refl _ _) | (with_reducible assumption) | (with_reducible refine Below.alloc ?_ ?_ _) | (with_reducible refine Below.drew ?_) | (with_reducible refine below_drewN ?_ _) | (with_reducible refine Below.setCell ?_ ?_ _) | (with_reducible refine Below.trans ?_ (Below.mono (by assumption) ?_)) | (first | omega | (simp only [World.size_alloc, World.size_setCell, World.size_drew]; omega) | (simp; omega) | (simp; done))))⟩

set_option maxHeartbeats 4000000 in
theorem specCo_b (n : Int) (A : Option Addr) (c : Nat) (es : List (Int × Int)) (k d : Int) (w : World) (hl : es.length ≤ 1048576) (hr : RdE w A es) (xs : List Int) (v : Int) (Hr : Hid ((coOf n es k d).1 = xs)) (Hv : Hid ((coOf n es k d).2 = v)) :
    Calls Try.prog 38 #[.agg #[.int .i64 n, .slice A es.length c], .int .i64 k, .int .i64 d] w fun e w' => RetI w' w.heap.size e xs (.int .i64 v) ∧ Below w.heap.size w w' := by
  obtain ⟨qg, hg⟩ : ∃ q, Hid (isGraphB n es = q) := ⟨_, rfl⟩
  obtain ⟨qc, hc⟩ : ∃ q, Hid (circB k d = q) := ⟨_, rfl⟩
  have cg := fun W (hW : Below w.heap.size w W) => l01Is_b n A c es W qg hg hl (hr.below hW)
  have cc := fun W => l08Numbers_b k d W qc hc
  cases qg
  · have Hr2 : Hid ([] = xs) := by show _ = _; rw [← Hr.out, coOf, hg.out]; rfl
    have Hv2 : Hid (1 = v) := by show _ = _; rw [← Hv.out, coOf, hg.out]; rfl
    clear Hr Hv hr hg hc cc
    generalize es.length = L at *
    go_enter Try.func38, Try.ntmps38
    go_wp2_with fail
    refine (cg _ (by (repeat' (first | (with_reducible exact Below.refl _ _) | (with_reducible assumption) | (with_reducible refine Below.alloc ?_ ?_ _) | (with_reducible refine Below.drew ?_) | (with_reducible refine below_drewN ?_ _) | (with_reducible refine Below.setCell ?_ ?_ _) | (with_reducible refine Below.trans ?_ (Below.mono (by assumption) ?_)) | (first | omega | (simp only [World.size_alloc, World.size_setCell, World.size_drew]; omega) | (simp; omega) | (simp; done)))))).mono ?_
    rintro e w1 ⟨rfl, hb1⟩
    go_wp2
    go_ret2
    exact ⟨RetI.none Hr2.out.symm (by rw [← Hv2.out]; rfl), by (repeat' (first | (with_reducible exact Below.refl _ _) | (with_reducible assumption) | (with_reducible refine Below.alloc ?_ ?_ _) | (with_reducible refine Below.drew ?_) | (with_reducible refine below_drewN ?_ _) | (with_reducible refine Below.setCell ?_ ?_ _) | (with_reducible refine Below.trans ?_ (Below.mono (by assumption) ?_)) | (first | omega | (simp only [World.size_alloc, World.size_setCell, World.size_drew]; omega) | (simp; omega) | (simp; done))))⟩
  cases qc
  · have Hr2 : Hid ([] = xs) := by show _ = _; rw [← Hr.out, coOf, hg.out, hc.out]; rfl
    have Hv2 : Hid (2 = v) := by show _ = _; rw [← Hv.out, coOf, hg.out, hc.out]; rfl
    clear Hr Hv hr hg hc
    generalize es.length = L at *
    go_enter Try.func38, Try.ntmps38
    go_wp2_with fail
    refine (cg _ (by (repeat' (first | (with_reducible exact Below.refl _ _) | (with_reducible assumption) | (with_reducible refine Below.alloc ?_ ?_ _) | (with_reducible refine Below.drew ?_) | (with_reducible refine below_drewN ?_ _) | (with_reducible refine Below.setCell ?_ ?_ _) | (with_reducible refine Below.trans ?_ (Below.mono (by assumption) ?_)) | (first | omega | (simp only [World.size_alloc, World.size_setCell, World.size_drew]; omega) | (simp; omega) | (simp; done)))))).mono ?_
    rintro e w1 ⟨rfl, hb1⟩
    simp only [World.size_alloc, World.size_setCell, World.size_drew] at hb1; have B1 : Below w.heap.size w w1 := by (repeat' (first | (with_reducible exact Below.refl _ _) | (with_reducible assumption) | (with_reducible refine Below.alloc ?_ ?_ _) | (with_reducible refine Below.drew ?_) | (with_reducible refine below_drewN ?_ _) | (with_reducible refine Below.setCell ?_ ?_ _) | (with_reducible refine Below.trans ?_ (Below.mono (by assumption) ?_)) | (first | omega | (simp only [World.size_alloc, World.size_setCell, World.size_drew]; omega) | (simp; omega) | (simp; done))))
    have K1 : Blk w1 w.heap.size 30 #[.int .i64 n, .slice A L c] := (Blk.new' _ rfl).below hb1 (by omega)
    have d10 := K1.cellAt 0 _ rfl; have d11 := K1.cellAt 1 _ rfl; have z1 := hb1.size; simp only [World.size_alloc, World.size_setCell, World.size_drew] at z1
    go_wp2_with fail
    refine (cc _).mono ?_
    rintro e w2 ⟨rfl, rfl⟩
    go_wp2
    go_ret2
    exact ⟨RetI.none Hr2.out.symm (by rw [← Hv2.out]; rfl), B1⟩
  by_cases h : (10 : Int) < n
  · have Hr2 : Hid ([] = xs) := by show _ = _; rw [← Hr.out, coOf, hg.out, hc.out]; simp [scode, gcode, h]
    have Hv2 : Hid (3 = v) := by show _ = _; rw [← Hv.out, coOf, hg.out, hc.out]; simp [scode, gcode, h]
    clear Hr Hv hr hg hc
    generalize es.length = L at *
    go_enter Try.func38, Try.ntmps38
    go_wp2_with fail
    refine (cg _ (by (repeat' (first | (with_reducible exact Below.refl _ _) | (with_reducible assumption) | (with_reducible refine Below.alloc ?_ ?_ _) | (with_reducible refine Below.drew ?_) | (with_reducible refine below_drewN ?_ _) | (with_reducible refine Below.setCell ?_ ?_ _) | (with_reducible refine Below.trans ?_ (Below.mono (by assumption) ?_)) | (first | omega | (simp only [World.size_alloc, World.size_setCell, World.size_drew]; omega) | (simp; omega) | (simp; done)))))).mono ?_
    rintro e w1 ⟨rfl, hb1⟩
    simp only [World.size_alloc, World.size_setCell, World.size_drew] at hb1; have B1 : Below w.heap.size w w1 := by (repeat' (first | (with_reducible exact Below.refl _ _) | (with_reducible assumption) | (with_reducible refine Below.alloc ?_ ?_ _) | (with_reducible refine Below.drew ?_) | (with_reducible refine below_drewN ?_ _) | (with_reducible refine Below.setCell ?_ ?_ _) | (with_reducible refine Below.trans ?_ (Below.mono (by assumption) ?_)) | (first | omega | (simp only [World.size_alloc, World.size_setCell, World.size_drew]; omega) | (simp; omega) | (simp; done))))
    have K1 : Blk w1 w.heap.size 30 #[.int .i64 n, .slice A L c] := (Blk.new' _ rfl).below hb1 (by omega)
    have d10 := K1.cellAt 0 _ rfl; have d11 := K1.cellAt 1 _ rfl; have z1 := hb1.size; simp only [World.size_alloc, World.size_setCell, World.size_drew] at z1
    go_wp2_with fail
    refine (cc _).mono ?_
    rintro e w2 ⟨rfl, rfl⟩
    go_wp2
    go_ret2
    exact ⟨RetI.none Hr2.out.symm (by rw [← Hv2.out]; rfl), B1⟩
  · have b1 := circB_bd hc.out
    have b2 := isGraphB_len hg.out
    obtain ⟨o, Ho⟩ : ∃ o, Hid (coFind es k d = o) := ⟨_, rfl⟩
    have Hr2 : Hid (o.getD [] = xs) := by show _ = _; rw [← Hr.out, coOf, hg.out, hc.out, Ho.out]; simp [scode, gcode, h]
    have Hv2 : Hid ((if o.isSome = true then 0 else 4) = v) := by show _ = _; rw [← Hv.out, coOf, hg.out, hc.out, Ho.out]; simp [scode, gcode, h]
    have cr := fun (W : World) (hW : Below w.heap.size w W) => circ_b n A c es.length es k d w hc rfl (by omega) (fun W hW => hr.below hW) es.length 0 W.heap.size 0 0 [] (W.alloc (.cells #[] 2)) (by omega) rfl (.inl rfl) (fun j hj => by omega) (hW.alloc hW.size _)
    have hcf : fillO (nearAre es) (fun x y => !apartB k d x y) (candC k) es.length [] = o := Ho.out
    simp only [hcf] at cr
    have Cr := Lib.hid cr
    clear Hr Hv hr hg hc Ho cr hcf b2
    generalize es.length = L at *
    go_enter Try.func38, Try.ntmps38
    go_wp2_with fail
    refine (cg _ (by (repeat' (first | (with_reducible exact Below.refl _ _) | (with_reducible assumption) | (with_reducible refine Below.alloc ?_ ?_ _) | (with_reducible refine Below.drew ?_) | (with_reducible refine below_drewN ?_ _) | (with_reducible refine Below.setCell ?_ ?_ _) | (with_reducible refine Below.trans ?_ (Below.mono (by assumption) ?_)) | (first | omega | (simp only [World.size_alloc, World.size_setCell, World.size_drew]; omega) | (simp; omega) | (simp; done)))))).mono ?_
    rintro e w1 ⟨rfl, hb1⟩
    simp only [World.size_alloc, World.size_setCell, World.size_drew] at hb1; have B1 : Below w.heap.size w w1 := by (repeat' (first | (with_reducible exact Below.refl _ _) | (with_reducible assumption) | (with_reducible refine Below.alloc ?_ ?_ _) | (with_reducible refine Below.drew ?_) | (with_reducible refine below_drewN ?_ _) | (with_reducible refine Below.setCell ?_ ?_ _) | (with_reducible refine Below.trans ?_ (Below.mono (by assumption) ?_)) | (first | omega | (simp only [World.size_alloc, World.size_setCell, World.size_drew]; omega) | (simp; omega) | (simp; done))))
    have K1 : Blk w1 w.heap.size 30 #[.int .i64 n, .slice A L c] := (Blk.new' _ rfl).below hb1 (by omega)
    have d10 := K1.cellAt 0 _ rfl; have d11 := K1.cellAt 1 _ rfl; have z1 := hb1.size; simp only [World.size_alloc, World.size_setCell, World.size_drew] at z1
    go_wp2_with fail
    refine (cc _).mono ?_
    rintro e w2 ⟨rfl, rfl⟩
    have c3 := Cr.out _ B1
    go_wp2_with fail
    refine c3.mono ?_
    rintro e w3 ⟨⟨A3, c3, rfl, hF⟩, hb3⟩
    have B3 : Hid (Below w.heap.size w w3) := (B1.alloc B1.size _).trans (hb3.mono (B1.alloc B1.size _).size)
    have HF := Lib.hid hF
    clear hF hb3 Cr
    cases o with
    | none =>
      have os : (none : Option (List Int)).isSome = false := rfl
      rw [os]
      go_wp2
      go_ret2
      exact ⟨RetI.none Hr2.out.symm (by rw [← Hv2.out]; rfl), B3.out⟩
    | some zs =>
      have os : (some zs : Option (List Int)).isSome = true := rfl
      rw [os]
      go_wp2
      go_ret2
      refine ⟨?_, B3.out⟩
      rw [← Hr2.out]
      exact RetI.mk HF.out rfl (by rw [← Hv2.out]; rfl)
theorem lenCo {n : Int} {es : List (Int × Int)} {k d : Int} : (coOf n es k d).1.length ≤ 1048576 := by
  unfold coOf
  split
  · rename_i h
    obtain ⟨h1, _, _⟩ := scode_zero2 h
    have h2 := isGraphB_len h1
    cases h3 : coFind es k d with
    | none => simp
    | some ys =>
      have := fillO_len _ _ _ h3
      simp at this ⊢
      omega
  · simp
end Go.Proofs.Ytkpnplldnihalaa
