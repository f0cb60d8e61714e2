/- impl.IsStrong: what it returns; its walk. -/
import Derived.Test.YtphpfapfdngdcaaCi5
namespace Go.Proofs.Ytphpfapfdngdcaa
open Go.RowKit
set_option linter.unusedSimpArgs false
set_option linter.unusedVariables false
set_option maxRecDepth 20000

theorem ent_same : Ent 50 := enters_of Try.func50 (by kernel_rfl) rfl
theorem same_b (x y : Int) (w : World) : Calls Try.prog 50 #[.int .i64 x, .int .i64 y] w fun e w' => e = .returned (.bool (decide (x = y))) ∧ w = w' := by
  obtain ⟨q, hq⟩ : ∃ q, Hid (decide (x = y) = q) := ⟨_, rfl⟩
  have e1 : (x == y) = q := by rw [← hq.out]; rfl
  rw [hq.out]
  clear hq
  go_enter Try.func50, Try.ntmps50
  go_wp2
  go_ret
  exact ⟨rfl, rfl⟩
theorem isTold_b (k : Int) (w : World) (q : Bool) (hq : Hid (inB k 1 20 = q)) : Calls Try.prog 47 #[.int .i64 k] w fun e w' => e = .returned (.bool q) ∧ w = w' := by
  go_enter Try.func47, Try.ntmps47
  go_wp2_with fail
  refine (within_b _ _ _ _ _ hq).mono ?_
  rintro e w1 ⟨rfl, rfl⟩
  go_wp2
  go_ret
  exact ⟨rfl, rfl⟩

/-- Edges by their numbers are close. -/
def closeAre (es : List (Int × Int)) (i k : Nat) : Bool := closeB es i k
theorem ent_isClose : Ent 76 := enters_of Try.func76 (by kernel_rfl) rfl

set_option maxHeartbeats 1000000 in
theorem closeEdges_b (n : Int) (A : Option Addr) (c : Nat) (es : List (Int × Int)) (w : World) (hl : es.length ≤ 100000) (hr : RdE w A es) :
    Calls Try.prog 49 #[.agg #[.int .i64 n, .slice A es.length c]] w fun e w' => ∃ g, e = .returned (.slice (some ⟨g, 0, none⟩) es.length es.length) ∧ RdL w' (some ⟨g, 0, none⟩) (nbrs (closeAre es) es.length) ∧ Below w.heap.size w w' := by
  have hmf : ∀ (fn : Fn) (first cap : Array Value) (w : World), (Instr.makeFunc fn first cap).run Try.prog w = .ok (.func fn first cap) w := fun _ _ _ _ => rfl
  have cn := fun W (hW : Below w.heap.size w W) => neighbours_b es.length 76 #[.agg #[.int .i64 n, .slice A es.length c]] #[] (closeAre es) W hl ent_isClose
    (fun W' i k hk hi hW' => isClose_b n A c es i k W' _ rfl hi (by omega) (by omega) ((hr.below hW).below hW'))
  clear hr
  generalize nbrs (closeAre es) es.length = X at *
  generalize es.length = L at *
  go_enter Try.func49, Try.ntmps49
  go_wp2
  refine wp_region_noPanic ?_
  refine wp_region_held_drew (S := (fun w' => w'.cell? ⟨w.heap.size, 0, none⟩ = some (.int .i64 n) ∧ w'.cell? ⟨w.heap.size, 1, none⟩ = some (.slice A L c))) (by kernel_rfl) ?_ (fun hHeld => ?_)
  · (try dsimp only); (first | go_keep | (obtain ⟨hq, _⟩ := bcell ‹Below _ _ _›; (repeat' apply And.intro) <;> (rw [hq _ _ (by first | assumption | omega | (simp; done) | (simp; omega) | (simp; assumption))] <;> (first | assumption | (simp [*]; done)))))
  refine wpAnyH_take_d (i := 0) (d := some 3) (v := ?v1) rfl rfl (by kernel_rfl) (by kernel_rfl) (by kernel_rfl) (fun _ _ _ h => h) (Or.inl ⟨by kernel_rfl, ?y1⟩) (by assumption) ?_
  case y1 => (intro w' hSw; (try dsimp only at hSw); go_simp; try with_reducible rfl)
  try simp only [Act.put, List.setIfInBounds_toArray, List.set_cons_zero, List.set_cons_succ]
  refine wpAnyH_take_d (i := 1) (d := some 4) (v := ?v2) rfl rfl (by kernel_rfl) (by kernel_rfl) (by kernel_rfl) (fun _ _ _ h => h) (Or.inl ⟨by kernel_rfl, ?y2⟩) (by assumption) ?_
  case y2 => (intro w' hSw; (try dsimp only at hSw); go_simp; try with_reducible rfl)
  try simp only [Act.put, List.setIfInBounds_toArray, List.set_cons_zero, List.set_cons_succ]
  refine wpAnyH_take_d (i := 3) (d := some 6) (v := ?v3) rfl rfl (by kernel_rfl) (by kernel_rfl) (by kernel_rfl) (fun _ _ _ h => h) (Or.inl ⟨by kernel_rfl, ?y3⟩) (by assumption) ?_
  case y3 => (intro w' hSw; (try dsimp only at hSw); go_simp; try with_reducible rfl)
  try simp only [Act.put, List.setIfInBounds_toArray, List.set_cons_zero, List.set_cons_succ]
  refine wpAnyH_take_d (i := 4) (d := some 7) (v := ?v4) rfl rfl (by kernel_rfl) (by kernel_rfl) (by kernel_rfl) (fun _ _ _ h => h) (Or.inl ⟨by kernel_rfl, ?y4⟩) (by assumption) ?_
  case y4 => (intro w' hSw; (try dsimp only at hSw); go_simp; try with_reducible rfl)
  try simp only [Act.put, List.setIfInBounds_toArray, List.set_cons_zero, List.set_cons_succ]
  refine wpAnyH_ready (rs := [2]) (by kernel_rfl) (by simp) ?_
  refine AllReadyH.cons rfl (fun K hK => ?_) AllReadyH.nil
  go_simp
  refine (lengthE_any _ _ _ _).mono ?_; rintro e w1 ⟨rfl, rfl⟩
  refine hK.out _ _ ?s5 (fun hHeld5 => ?_)
  case s5 => ((try dsimp only); (first | go_keep | (obtain ⟨hq, _⟩ := bcell ‹Below _ _ _›; (repeat' apply And.intro) <;> (rw [hq _ _ (by first | assumption | omega | (simp; done) | (simp; omega) | (simp; assumption))] <;> (first | assumption | (simp [*]; done))))))
  clear hK K hHeld
  have hHeld := hHeld5; clear hHeld5
  try simp only [Act.put, List.setIfInBounds_toArray, List.set_cons_zero, List.set_cons_succ]
  refine wpAnyH_ready (rs := [5]) (by kernel_rfl) (by simp) ?_
  refine AllReadyH.cons rfl (fun K hK => ?_) AllReadyH.nil
  go_simp
  refine (cn _ (by (repeat' (first | (with_reducible exact Below.refl _ _) | (with_reducible assumption) | (with_reducible refine Below.alloc ?_ ?_ _) | (with_reducible refine Below.drew ?_) | (with_reducible refine below_drewN ?_ _) | (with_reducible refine Below.setCell ?_ ?_ _) | (with_reducible refine Below.trans ?_ (Below.mono (by assumption) ?_)) | (first | omega | (simp only [World.size_alloc, World.size_setCell, World.size_drew]; omega) | (simp; omega) | (simp; done)))))).mono ?_; rintro e w2 ⟨rfl, hX, hb2⟩
  refine hK.out _ _ ?s6 (fun hHeld6 => ?_)
  case s6 => ((try dsimp only); (first | go_keep | (obtain ⟨hq, _⟩ := bcell ‹Below _ _ _›; (repeat' apply And.intro) <;> (rw [hq _ _ (by first | assumption | omega | (simp; done) | (simp; omega) | (simp; assumption))] <;> (first | assumption | (simp [*]; done))))))
  clear hK K hHeld
  have hHeld := hHeld6; clear hHeld6
  try simp only [Act.put, List.setIfInBounds_toArray, List.set_cons_zero, List.set_cons_succ]
  refine wpAnyH_take_d (i := 6) (d := some 2) (v := ?v7) rfl rfl (by kernel_rfl) (by kernel_rfl) (by kernel_rfl) (fun _ _ _ h => h) (Or.inl ⟨by kernel_rfl, ?y7⟩) (by assumption) ?_
  case y7 => (intro w' hSw; (try dsimp only at hSw); go_simp; try with_reducible rfl)
  try simp only [Act.put, List.setIfInBounds_toArray, List.set_cons_zero, List.set_cons_succ]
  refine wpAnyH_done (by kernel_rfl) ?_ _
  refine NoPanic.normal ?_
  go_wp2
  go_ret
  simp only [World.size_alloc, World.size_setCell, World.size_drew] at hX
  exact ⟨_, rfl, hX, by (repeat' (first | (with_reducible exact Below.refl _ _) | (with_reducible assumption) | (with_reducible refine Below.alloc ?_ ?_ _) | (with_reducible refine Below.drew ?_) | (with_reducible refine below_drewN ?_ _) | (with_reducible refine Below.setCell ?_ ?_ _) | (with_reducible refine Below.trans ?_ (Below.mono (by assumption) ?_)) | (first | omega | (simp only [World.size_alloc, World.size_setCell, World.size_drew]; omega) | (simp; omega) | (simp; done))))⟩

/-- whether a number and a list are those of a colouring of m things -/
def toldB (m : Nat) (k : Int) (xs : List Int) : Bool := inB k 1 20 && decide (xs.length = m)
/-- What IsStrong returns. -/
def stOf (n : Int) (es : List (Int × Int)) (k : Int) (xs : List Int) : Bool × Int :=
  (isGraphB n es && (toldB es.length k xs && properB es.length xs k (closeAre es) (fun x y => decide (x = y))), gcode (isGraphB n es) (toldB es.length k xs))

set_option maxHeartbeats 4000000 in
theorem implStrong_b (n : Int) (A : Option Addr) (c : Nat) (es : List (Int × Int)) (k : Int) (B : Option Addr) (cb : Nat) (xs : List Int) (w : World) (hl : es.length ≤ 1048576) (hlx : xs.length ≤ 1048576) (hr : RdE w A es) (hx : RdI w B xs) (r : Bool) (v : Int) (Hr : Hid ((stOf n es k xs).1 = r)) (Hv : Hid ((stOf n es k xs).2 = v)) :
    Calls Try.prog 23 #[.agg #[.int .i64 n, .slice A es.length c], .int .i64 k, .slice B xs.length cb] w fun e w' => e = .returned (.tuple #[.bool r, .int .i64 v]) ∧ Below w.heap.size w w' := by
  obtain ⟨qg, hg⟩ : ∃ q, Hid (isGraphB n es = q) := ⟨_, rfl⟩
  obtain ⟨qc, hc⟩ : ∃ q, Hid (inB k 1 20 = q) := ⟨_, rfl⟩
  obtain ⟨qd, hd⟩ : ∃ q, Hid (decide (xs.length = es.length) = q) := ⟨_, rfl⟩
  have Hr2 : Hid ((qg && ((qc && qd) && properB es.length xs k (closeAre es) (fun x y => decide (x = y)))) = r) := by show _ = _; rw [← Hr.out, stOf, toldB, hg.out, hc.out, hd.out]
  have Hv2 : Hid (gcode qg (qc && qd) = v) := by show _ = _; rw [← Hv.out, stOf, toldB, hg.out, hc.out, hd.out]
  have cc := fun W => isTold_b k W qc hc
  have cg := fun W (hW : Below w.heap.size w W) => graphCode_b n A c es W qg (qc && qd) hg hl (hr.below hW)
  rw [Hv2.out] at cg
  have ne : ((xs.length : Int) == (es.length : Int)) = qd := by rw [← hd.out, Bool.eq_iff_iff]; simp; omega
  by_cases hall : (qc && qd) = true ∧ qg = true
  · obtain ⟨hall, rfl⟩ := hall
    simp only [Bool.and_eq_true] at hall
    obtain ⟨rfl, rfl⟩ := hall
    have b1 := inB_true.1 hc.out
    have b2 := isGraphB_len hg.out
    have b3 : xs.length = es.length := by simpa using hd.out
    have Hr3 : Hid (properB es.length xs k (closeAre es) (fun x y => decide (x = y)) = r) := by show _ = _; rw [← Hr2.out]; simp
    have Hv3 : Hid (0 = v) := by show _ = _; rw [← Hv2.out]; rfl
    rw [← Hv3.out] at cg
    have cn := fun W (hW : Below w.heap.size w W) => closeEdges_b n A c es W (by omega) (hr.below hW)
    have cp := fun (W : World) (hW : Below w.heap.size w W) (A' : Option Addr) (c' : Nat) (hX : RdL W A' (nbrs (closeAre es) es.length)) =>
      isProper_b B cb xs es.length k A' c' (closeAre es) 50 #[] (fun x y => decide (x = y)) W r Hr3 b3 (by omega) (by omega) (hx.below hW) hX ent_same
        (fun W' x y hx' hy' hW' => (same_b x y W').mono fun e w2 ⟨h1, h2⟩ => ⟨h1, h2 ▸ Below.refl _ _⟩)
    rw [b3] at ne ⊢
    clear hr hx hg hc hd Hr Hv Hr2 Hv2 Hr3 b1 b2 b3 hlx
    simp only [Bool.true_and] at cg
    generalize nbrs (closeAre es) es.length = X at *
    generalize es.length = L at *
    go_enter Try.func23, Try.ntmps23
    go_wp2
    refine wp_region_noPanic ?_
    refine wp_region_held_drew (S := (fun w' => w'.cell? ⟨w.heap.size, 0, none⟩ = some (.int .i64 n) ∧ w'.cell? ⟨w.heap.size, 1, none⟩ = some (.slice A L c))) (by kernel_rfl) ?_ (fun hHeld => ?_)
    · (try dsimp only); (first | go_keep | (obtain ⟨hq, _⟩ := bcell ‹Below _ _ _›; (repeat' apply And.intro) <;> (rw [hq _ _ (by first | assumption | omega | (simp; done) | (simp; omega) | (simp; assumption))] <;> (first | assumption | (simp [*]; done)))))
    refine wpAnyH_take_d (i := 0) (d := some 9) (v := ?v8) rfl rfl (by kernel_rfl) (by kernel_rfl) (by kernel_rfl) (fun _ _ _ h => h) (Or.inl ⟨by kernel_rfl, ?y8⟩) (by assumption) ?_
    case y8 => (intro w' hSw; (try dsimp only at hSw); go_simp; try with_reducible rfl)
    try simp only [Act.put, List.setIfInBounds_toArray, List.set_cons_zero, List.set_cons_succ]
    refine wpAnyH_take_d (i := 1) (d := some 10) (v := ?v9) rfl rfl (by kernel_rfl) (by kernel_rfl) (by kernel_rfl) (fun _ _ _ h => h) (Or.inl ⟨by kernel_rfl, ?y9⟩) (by assumption) ?_
    case y9 => (intro w' hSw; (try dsimp only at hSw); go_simp; try with_reducible rfl)
    try simp only [Act.put, List.setIfInBounds_toArray, List.set_cons_zero, List.set_cons_succ]
    refine wpAnyH_ready (rs := [2]) (by kernel_rfl) (by simp) ?_
    refine AllReadyH.cons rfl (fun K hK => ?_) AllReadyH.nil
    go_simp
    refine (cc _).mono ?_; rintro e w1 ⟨rfl, rfl⟩
    refine hK.out _ _ ?s10 (fun hHeld10 => ?_)
    case s10 => ((try dsimp only); (first | go_keep | (obtain ⟨hq, _⟩ := bcell ‹Below _ _ _›; (repeat' apply And.intro) <;> (rw [hq _ _ (by first | assumption | omega | (simp; done) | (simp; omega) | (simp; assumption))] <;> (first | assumption | (simp [*]; done))))))
    clear hK K hHeld
    have hHeld := hHeld10; clear hHeld10
    try simp only [Act.put, List.setIfInBounds_toArray, List.set_cons_zero, List.set_cons_succ]
    refine wpAnyH_take_d (i := 3) (d := some 12) (v := ?v11) rfl rfl (by kernel_rfl) (by kernel_rfl) (by kernel_rfl) (fun _ _ _ h => h) (Or.inl ⟨by kernel_rfl, ?y11⟩) (by assumption) ?_
    case y11 => (intro w' hSw; (try dsimp only at hSw); go_simp; try with_reducible rfl)
    try simp only [Act.put, List.setIfInBounds_toArray, List.set_cons_zero, List.set_cons_succ]
    refine wpAnyH_take_d (i := 4) (d := some 13) (v := ?v12) rfl rfl (by kernel_rfl) (by kernel_rfl) (by kernel_rfl) (fun _ _ _ h => h) (Or.inl ⟨by kernel_rfl, ?y12⟩) (by assumption) ?_
    case y12 => (intro w' hSw; (try dsimp only at hSw); go_simp; try with_reducible rfl)
    try simp only [Act.put, List.setIfInBounds_toArray, List.set_cons_zero, List.set_cons_succ]
    refine wpAnyH_take_d (i := 5) (d := some 14) (v := ?v13) rfl rfl (by kernel_rfl) (by kernel_rfl) (by kernel_rfl) (fun _ _ _ h => h) (Or.inl ⟨by kernel_rfl, ?y13⟩) (by assumption) ?_
    case y13 => (intro w' hSw; (try dsimp only at hSw); go_simp; try with_reducible rfl)
    try simp only [Act.put, List.setIfInBounds_toArray, List.set_cons_zero, List.set_cons_succ]
    refine wpAnyH_take_d (i := 6) (d := some 15) (v := ?v14) rfl rfl (by kernel_rfl) (by kernel_rfl) (by kernel_rfl) (fun _ _ _ h => h) (Or.inl ⟨by kernel_rfl, ?y14⟩) (by assumption) ?_
    case y14 => (intro w' hSw; (try dsimp only at hSw); go_simp; try with_reducible rfl)
    try simp only [Act.put, List.setIfInBounds_toArray, List.set_cons_zero, List.set_cons_succ]
    refine wpAnyH_take_d (i := 7) (d := some 16) (v := ?v15) rfl rfl (by kernel_rfl) (by kernel_rfl) (by kernel_rfl) (fun _ _ _ h => h) (Or.inl ⟨by kernel_rfl, ?y15⟩) (by assumption) ?_
    case y15 => (intro w' hSw; (try dsimp only at hSw); go_simp; try with_reducible rfl)
    try simp only [Act.put, List.setIfInBounds_toArray, List.set_cons_zero, List.set_cons_succ]
    refine wpAnyH_take_d (i := 8) (d := some 17) (v := ?v16) rfl rfl (by kernel_rfl) (by kernel_rfl) (by kernel_rfl) (fun _ _ _ h => h) (Or.inl ⟨by kernel_rfl, ?y16⟩) (by assumption) ?_
    case y16 => (intro w' hSw; (try dsimp only at hSw); go_simp; try with_reducible rfl)
    try simp only [Act.put, List.setIfInBounds_toArray, List.set_cons_zero, List.set_cons_succ]
    refine wpAnyH_take_d (i := 9) (d := some 18) (v := ?v17) rfl rfl (by kernel_rfl) (by kernel_rfl) (by kernel_rfl) (fun _ _ _ h => h) (Or.inl ⟨by kernel_rfl, ?y17⟩) (by assumption) ?_
    case y17 => (intro w' hSw; (try dsimp only at hSw); go_simp; try with_reducible rfl)
    try simp only [Act.put, List.setIfInBounds_toArray, List.set_cons_zero, List.set_cons_succ]
    refine wpAnyH_take_d (i := 10) (d := some 19) (v := ?v18) rfl rfl (by kernel_rfl) (by kernel_rfl) (by kernel_rfl) (fun _ _ _ h => h) (Or.inl ⟨by kernel_rfl, ?y18⟩) (by assumption) ?_
    case y18 => (intro w' hSw; (try dsimp only at hSw); go_simp; try with_reducible rfl)
    try simp only [Act.put, List.setIfInBounds_toArray, List.set_cons_zero, List.set_cons_succ]
    refine wpAnyH_ready (rs := [11]) (by kernel_rfl) (by simp) ?_
    refine AllReadyH.cons rfl (fun K hK => ?_) AllReadyH.nil
    go_simp
    refine (cg _ (by (repeat' (first | (with_reducible exact Below.refl _ _) | (with_reducible assumption) | (with_reducible refine Below.alloc ?_ ?_ _) | (with_reducible refine Below.drew ?_) | (with_reducible refine below_drewN ?_ _) | (with_reducible refine Below.setCell ?_ ?_ _) | (with_reducible refine Below.trans ?_ (Below.mono (by assumption) ?_)) | (first | omega | (simp only [World.size_alloc, World.size_setCell, World.size_drew]; omega) | (simp; omega) | (simp; done)))))).mono ?_; rintro e w3 ⟨rfl, hb3⟩
    refine hK.out _ _ ?s19 (fun hHeld19 => ?_)
    case s19 => ((try dsimp only); (first | go_keep | (obtain ⟨hq, _⟩ := bcell ‹Below _ _ _›; (repeat' apply And.intro) <;> (rw [hq _ _ (by first | assumption | omega | (simp; done) | (simp; omega) | (simp; assumption))] <;> (first | assumption | (simp [*]; done))))))
    clear hK K hHeld
    have hHeld := hHeld19; clear hHeld19
    try simp only [Act.put, List.setIfInBounds_toArray, List.set_cons_zero, List.set_cons_succ]
    refine wpAnyH_take_d (i := 12) (d := some 8) (v := ?v20) rfl rfl (by kernel_rfl) (by kernel_rfl) (by kernel_rfl) (fun _ _ _ h => h) (Or.inl ⟨by kernel_rfl, ?y20⟩) (by assumption) ?_
    case y20 => (intro w' hSw; (try dsimp only at hSw); go_simp; try with_reducible rfl)
    try simp only [Act.put, List.setIfInBounds_toArray, List.set_cons_zero, List.set_cons_succ]
    refine wpAnyH_done (by kernel_rfl) ?_ _
    refine NoPanic.normal ?_
    obtain ⟨hA, hB⟩ := hHeld
    have z3 := hb3.size
    have B3 : Below w.heap.size w w3 := by (repeat' (first | (with_reducible exact Below.refl _ _) | (with_reducible assumption) | (with_reducible refine Below.alloc ?_ ?_ _) | (with_reducible refine Below.drew ?_) | (with_reducible refine below_drewN ?_ _) | (with_reducible refine Below.setCell ?_ ?_ _) | (with_reducible refine Below.trans ?_ (Below.mono (by assumption) ?_)) | (first | omega | (simp only [World.size_alloc, World.size_setCell, World.size_drew]; omega) | (simp; omega) | (simp; done))))
    go_wp2_with fail
    refine (cn _ B3).mono ?_
    rintro e w4 ⟨g, rfl, hX, hb4⟩
    have B4 : Below w.heap.size w w4 := B3.trans (hb4.mono B3.size)
    go_wp2_with fail
    refine (cp _ B4 _ _ hX).mono ?_
    rintro e w6 ⟨rfl, hb6⟩
    clear hX
    go_wp2
    go_ret2
    exact ⟨by rw [← Hv3.out]; rfl, B4.trans (hb6.mono B4.size)⟩
  · have Hr3 : Hid (false = r) := by
      show _ = _; rw [← Hr2.out]
      cases qg <;> cases h : (qc && qd) <;> simp_all
    have g1 : (v != 0) = true := by
      have := Hv2.out
      cases qg <;> cases h : (qc && qd) <;> simp_all [gcode]
      all_goals (subst this; decide)
    have g2 : (v == 0) = false := by simpa using g1
    clear hr hg hx hc hd Hr Hv Hr2 Hv2 hall
    generalize es.length = L at *
    generalize xs.length = M at *
    cases qc
    · simp only [Bool.false_and] at cg
      go_enter Try.func23, Try.ntmps23
      go_wp2
      refine wp_region_noPanic ?_
      refine wp_region_held_drew (S := (fun w' => w'.cell? ⟨w.heap.size, 0, none⟩ = some (.int .i64 n) ∧ w'.cell? ⟨w.heap.size, 1, none⟩ = some (.slice A L c))) (by kernel_rfl) ?_ (fun hHeld => ?_)
      · (try dsimp only); (first | go_keep | (obtain ⟨hq, _⟩ := bcell ‹Below _ _ _›; (repeat' apply And.intro) <;> (rw [hq _ _ (by first | assumption | omega | (simp; done) | (simp; omega) | (simp; assumption))] <;> (first | assumption | (simp [*]; done)))))
      refine wpAnyH_take_d (i := 0) (d := some 9) (v := ?v21) rfl rfl (by kernel_rfl) (by kernel_rfl) (by kernel_rfl) (fun _ _ _ h => h) (Or.inl ⟨by kernel_rfl, ?y21⟩) (by assumption) ?_
      case y21 => (intro w' hSw; (try dsimp only at hSw); go_simp; try with_reducible rfl)
      try simp only [Act.put, List.setIfInBounds_toArray, List.set_cons_zero, List.set_cons_succ]
      refine wpAnyH_take_d (i := 1) (d := some 10) (v := ?v22) rfl rfl (by kernel_rfl) (by kernel_rfl) (by kernel_rfl) (fun _ _ _ h => h) (Or.inl ⟨by kernel_rfl, ?y22⟩) (by assumption) ?_
      case y22 => (intro w' hSw; (try dsimp only at hSw); go_simp; try with_reducible rfl)
      try simp only [Act.put, List.setIfInBounds_toArray, List.set_cons_zero, List.set_cons_succ]
      refine wpAnyH_ready (rs := [2]) (by kernel_rfl) (by simp) ?_
      refine AllReadyH.cons rfl (fun K hK => ?_) AllReadyH.nil
      go_simp
      refine (cc _).mono ?_; rintro e w1 ⟨rfl, rfl⟩
      refine hK.out _ _ ?s23 (fun hHeld23 => ?_)
      case s23 => ((try dsimp only); (first | go_keep | (obtain ⟨hq, _⟩ := bcell ‹Below _ _ _›; (repeat' apply And.intro) <;> (rw [hq _ _ (by first | assumption | omega | (simp; done) | (simp; omega) | (simp; assumption))] <;> (first | assumption | (simp [*]; done))))))
      clear hK K hHeld
      have hHeld := hHeld23; clear hHeld23
      try simp only [Act.put, List.setIfInBounds_toArray, List.set_cons_zero, List.set_cons_succ]
      refine wpAnyH_take_d (i := 3) (d := some 12) (v := ?v24) rfl rfl (by kernel_rfl) (by kernel_rfl) (by kernel_rfl) (fun _ _ _ h => h) (Or.inl ⟨by kernel_rfl, ?y24⟩) (by assumption) ?_
      case y24 => (intro w' hSw; (try dsimp only at hSw); go_simp; try with_reducible rfl)
      try simp only [Act.put, List.setIfInBounds_toArray, List.set_cons_zero, List.set_cons_succ]
      refine wpAnyH_take_d (i := 4) (d := some 13) (v := undef) rfl rfl (by kernel_rfl) (by kernel_rfl) (by kernel_rfl) (fun _ _ _ h => h) (Or.inr ⟨by kernel_rfl, rfl⟩) (by assumption) ?_
      try simp only [Act.put, List.setIfInBounds_toArray, List.set_cons_zero, List.set_cons_succ]
      refine wpAnyH_take_d (i := 5) (d := some 14) (v := undef) rfl rfl (by kernel_rfl) (by kernel_rfl) (by kernel_rfl) (fun _ _ _ h => h) (Or.inr ⟨by kernel_rfl, rfl⟩) (by assumption) ?_
      try simp only [Act.put, List.setIfInBounds_toArray, List.set_cons_zero, List.set_cons_succ]
      refine wpAnyH_take_d (i := 6) (d := some 15) (v := undef) rfl rfl (by kernel_rfl) (by kernel_rfl) (by kernel_rfl) (fun _ _ _ h => h) (Or.inr ⟨by kernel_rfl, rfl⟩) (by assumption) ?_
      try simp only [Act.put, List.setIfInBounds_toArray, List.set_cons_zero, List.set_cons_succ]
      refine wpAnyH_take_d (i := 7) (d := some 16) (v := undef) rfl rfl (by kernel_rfl) (by kernel_rfl) (by kernel_rfl) (fun _ _ _ h => h) (Or.inr ⟨by kernel_rfl, rfl⟩) (by assumption) ?_
      try simp only [Act.put, List.setIfInBounds_toArray, List.set_cons_zero, List.set_cons_succ]
      refine wpAnyH_take_d (i := 8) (d := some 17) (v := undef) rfl rfl (by kernel_rfl) (by kernel_rfl) (by kernel_rfl) (fun _ _ _ h => h) (Or.inr ⟨by kernel_rfl, rfl⟩) (by assumption) ?_
      try simp only [Act.put, List.setIfInBounds_toArray, List.set_cons_zero, List.set_cons_succ]
      refine wpAnyH_take_d (i := 9) (d := some 18) (v := undef) rfl rfl (by kernel_rfl) (by kernel_rfl) (by kernel_rfl) (fun _ _ _ h => h) (Or.inr ⟨by kernel_rfl, rfl⟩) (by assumption) ?_
      try simp only [Act.put, List.setIfInBounds_toArray, List.set_cons_zero, List.set_cons_succ]
      refine wpAnyH_take_d (i := 10) (d := some 19) (v := ?v31) rfl rfl (by kernel_rfl) (by kernel_rfl) (by kernel_rfl) (fun _ _ _ h => h) (Or.inl ⟨by kernel_rfl, ?y31⟩) (by assumption) ?_
      case y31 => (intro w' hSw; (try dsimp only at hSw); go_simp; try with_reducible rfl)
      try simp only [Act.put, List.setIfInBounds_toArray, List.set_cons_zero, List.set_cons_succ]
      refine wpAnyH_ready (rs := [11]) (by kernel_rfl) (by simp) ?_
      refine AllReadyH.cons rfl (fun K hK => ?_) AllReadyH.nil
      go_simp
      refine (cg _ (by (repeat' (first | (with_reducible exact Below.refl _ _) | (with_reducible assumption) | (with_reducible refine Below.alloc ?_ ?_ _) | (with_reducible refine Below.drew ?_) | (with_reducible refine below_drewN ?_ _) | (with_reducible refine Below.setCell ?_ ?_ _) | (with_reducible refine Below.trans ?_ (Below.mono (by assumption) ?_)) | (first | omega | (simp only [World.size_alloc, World.size_setCell, World.size_drew]; omega) | (simp; omega) | (simp; done)))))).mono ?_; rintro e w3 ⟨rfl, hb3⟩
      refine hK.out _ _ ?s32 (fun hHeld32 => ?_)
      case s32 => ((try dsimp only); (first | go_keep | (obtain ⟨hq, _⟩ := bcell ‹Below _ _ _›; (repeat' apply And.intro) <;> (rw [hq _ _ (by first | assumption | omega | (simp; done) | (simp; omega) | (simp; assumption))] <;> (first | assumption | (simp [*]; done))))))
      clear hK K hHeld
      have hHeld := hHeld32; clear hHeld32
      try simp only [Act.put, List.setIfInBounds_toArray, List.set_cons_zero, List.set_cons_succ]
      refine wpAnyH_take_d (i := 12) (d := some 8) (v := ?v33) rfl rfl (by kernel_rfl) (by kernel_rfl) (by kernel_rfl) (fun _ _ _ h => h) (Or.inl ⟨by kernel_rfl, ?y33⟩) (by assumption) ?_
      case y33 => (intro w' hSw; (try dsimp only at hSw); go_simp; try with_reducible rfl)
      try simp only [Act.put, List.setIfInBounds_toArray, List.set_cons_zero, List.set_cons_succ]
      refine wpAnyH_done (by kernel_rfl) ?_ _
      refine NoPanic.normal ?_
      go_wp2
      go_ret2
      exact ⟨by rw [← Hr3.out]; rfl, by (repeat' (first | (with_reducible exact Below.refl _ _) | (with_reducible assumption) | (with_reducible refine Below.alloc ?_ ?_ _) | (with_reducible refine Below.drew ?_) | (with_reducible refine below_drewN ?_ _) | (with_reducible refine Below.setCell ?_ ?_ _) | (with_reducible refine Below.trans ?_ (Below.mono (by assumption) ?_)) | (first | omega | (simp only [World.size_alloc, World.size_setCell, World.size_drew]; omega) | (simp; omega) | (simp; done))))⟩
    · simp only [Bool.true_and] at cg
      go_enter Try.func23, Try.ntmps23
      go_wp2
      refine wp_region_noPanic ?_
      refine wp_region_held_drew (S := (fun w' => w'.cell? ⟨w.heap.size, 0, none⟩ = some (.int .i64 n) ∧ w'.cell? ⟨w.heap.size, 1, none⟩ = some (.slice A L c))) (by kernel_rfl) ?_ (fun hHeld => ?_)
      · (try dsimp only); (first | go_keep | (obtain ⟨hq, _⟩ := bcell ‹Below _ _ _›; (repeat' apply And.intro) <;> (rw [hq _ _ (by first | assumption | omega | (simp; done) | (simp; omega) | (simp; assumption))] <;> (first | assumption | (simp [*]; done)))))
      refine wpAnyH_take_d (i := 0) (d := some 9) (v := ?v34) rfl rfl (by kernel_rfl) (by kernel_rfl) (by kernel_rfl) (fun _ _ _ h => h) (Or.inl ⟨by kernel_rfl, ?y34⟩) (by assumption) ?_
      case y34 => (intro w' hSw; (try dsimp only at hSw); go_simp; try with_reducible rfl)
      try simp only [Act.put, List.setIfInBounds_toArray, List.set_cons_zero, List.set_cons_succ]
      refine wpAnyH_take_d (i := 1) (d := some 10) (v := ?v35) rfl rfl (by kernel_rfl) (by kernel_rfl) (by kernel_rfl) (fun _ _ _ h => h) (Or.inl ⟨by kernel_rfl, ?y35⟩) (by assumption) ?_
      case y35 => (intro w' hSw; (try dsimp only at hSw); go_simp; try with_reducible rfl)
      try simp only [Act.put, List.setIfInBounds_toArray, List.set_cons_zero, List.set_cons_succ]
      refine wpAnyH_ready (rs := [2]) (by kernel_rfl) (by simp) ?_
      refine AllReadyH.cons rfl (fun K hK => ?_) AllReadyH.nil
      go_simp
      refine (cc _).mono ?_; rintro e w1 ⟨rfl, rfl⟩
      refine hK.out _ _ ?s36 (fun hHeld36 => ?_)
      case s36 => ((try dsimp only); (first | go_keep | (obtain ⟨hq, _⟩ := bcell ‹Below _ _ _›; (repeat' apply And.intro) <;> (rw [hq _ _ (by first | assumption | omega | (simp; done) | (simp; omega) | (simp; assumption))] <;> (first | assumption | (simp [*]; done))))))
      clear hK K hHeld
      have hHeld := hHeld36; clear hHeld36
      try simp only [Act.put, List.setIfInBounds_toArray, List.set_cons_zero, List.set_cons_succ]
      refine wpAnyH_take_d (i := 3) (d := some 12) (v := ?v37) rfl rfl (by kernel_rfl) (by kernel_rfl) (by kernel_rfl) (fun _ _ _ h => h) (Or.inl ⟨by kernel_rfl, ?y37⟩) (by assumption) ?_
      case y37 => (intro w' hSw; (try dsimp only at hSw); go_simp; try with_reducible rfl)
      try simp only [Act.put, List.setIfInBounds_toArray, List.set_cons_zero, List.set_cons_succ]
      refine wpAnyH_take_d (i := 4) (d := some 13) (v := ?v38) rfl rfl (by kernel_rfl) (by kernel_rfl) (by kernel_rfl) (fun _ _ _ h => h) (Or.inl ⟨by kernel_rfl, ?y38⟩) (by assumption) ?_
      case y38 => (intro w' hSw; (try dsimp only at hSw); go_simp; try with_reducible rfl)
      try simp only [Act.put, List.setIfInBounds_toArray, List.set_cons_zero, List.set_cons_succ]
      refine wpAnyH_take_d (i := 5) (d := some 14) (v := ?v39) rfl rfl (by kernel_rfl) (by kernel_rfl) (by kernel_rfl) (fun _ _ _ h => h) (Or.inl ⟨by kernel_rfl, ?y39⟩) (by assumption) ?_
      case y39 => (intro w' hSw; (try dsimp only at hSw); go_simp; try with_reducible rfl)
      try simp only [Act.put, List.setIfInBounds_toArray, List.set_cons_zero, List.set_cons_succ]
      refine wpAnyH_take_d (i := 6) (d := some 15) (v := ?v40) rfl rfl (by kernel_rfl) (by kernel_rfl) (by kernel_rfl) (fun _ _ _ h => h) (Or.inl ⟨by kernel_rfl, ?y40⟩) (by assumption) ?_
      case y40 => (intro w' hSw; (try dsimp only at hSw); go_simp; try with_reducible rfl)
      try simp only [Act.put, List.setIfInBounds_toArray, List.set_cons_zero, List.set_cons_succ]
      refine wpAnyH_take_d (i := 7) (d := some 16) (v := ?v41) rfl rfl (by kernel_rfl) (by kernel_rfl) (by kernel_rfl) (fun _ _ _ h => h) (Or.inl ⟨by kernel_rfl, ?y41⟩) (by assumption) ?_
      case y41 => (intro w' hSw; (try dsimp only at hSw); go_simp; try with_reducible rfl)
      try simp only [Act.put, List.setIfInBounds_toArray, List.set_cons_zero, List.set_cons_succ]
      refine wpAnyH_take_d (i := 8) (d := some 17) (v := ?v42) rfl rfl (by kernel_rfl) (by kernel_rfl) (by kernel_rfl) (fun _ _ _ h => h) (Or.inl ⟨by kernel_rfl, ?y42⟩) (by assumption) ?_
      case y42 => (intro w' hSw; (try dsimp only at hSw); go_simp; try with_reducible rfl)
      try simp only [Act.put, List.setIfInBounds_toArray, List.set_cons_zero, List.set_cons_succ]
      refine wpAnyH_take_d (i := 9) (d := some 18) (v := ?v43) rfl rfl (by kernel_rfl) (by kernel_rfl) (by kernel_rfl) (fun _ _ _ h => h) (Or.inl ⟨by kernel_rfl, ?y43⟩) (by assumption) ?_
      case y43 => (intro w' hSw; (try dsimp only at hSw); go_simp; try with_reducible rfl)
      try simp only [Act.put, List.setIfInBounds_toArray, List.set_cons_zero, List.set_cons_succ]
      refine wpAnyH_take_d (i := 10) (d := some 19) (v := ?v44) rfl rfl (by kernel_rfl) (by kernel_rfl) (by kernel_rfl) (fun _ _ _ h => h) (Or.inl ⟨by kernel_rfl, ?y44⟩) (by assumption) ?_
      case y44 => (intro w' hSw; (try dsimp only at hSw); go_simp; try with_reducible rfl)
      try simp only [Act.put, List.setIfInBounds_toArray, List.set_cons_zero, List.set_cons_succ]
      refine wpAnyH_ready (rs := [11]) (by kernel_rfl) (by simp) ?_
      refine AllReadyH.cons rfl (fun K hK => ?_) AllReadyH.nil
      go_simp
      refine (cg _ (by (repeat' (first | (with_reducible exact Below.refl _ _) | (with_reducible assumption) | (with_reducible refine Below.alloc ?_ ?_ _) | (with_reducible refine Below.drew ?_) | (with_reducible refine below_drewN ?_ _) | (with_reducible refine Below.setCell ?_ ?_ _) | (with_reducible refine Below.trans ?_ (Below.mono (by assumption) ?_)) | (first | omega | (simp only [World.size_alloc, World.size_setCell, World.size_drew]; omega) | (simp; omega) | (simp; done)))))).mono ?_; rintro e w3 ⟨rfl, hb3⟩
      refine hK.out _ _ ?s45 (fun hHeld45 => ?_)
      case s45 => ((try dsimp only); (first | go_keep | (obtain ⟨hq, _⟩ := bcell ‹Below _ _ _›; (repeat' apply And.intro) <;> (rw [hq _ _ (by first | assumption | omega | (simp; done) | (simp; omega) | (simp; assumption))] <;> (first | assumption | (simp [*]; done))))))
      clear hK K hHeld
      have hHeld := hHeld45; clear hHeld45
      try simp only [Act.put, List.setIfInBounds_toArray, List.set_cons_zero, List.set_cons_succ]
      refine wpAnyH_take_d (i := 12) (d := some 8) (v := ?v46) rfl rfl (by kernel_rfl) (by kernel_rfl) (by kernel_rfl) (fun _ _ _ h => h) (Or.inl ⟨by kernel_rfl, ?y46⟩) (by assumption) ?_
      case y46 => (intro w' hSw; (try dsimp only at hSw); go_simp; try with_reducible rfl)
      try simp only [Act.put, List.setIfInBounds_toArray, List.set_cons_zero, List.set_cons_succ]
      refine wpAnyH_done (by kernel_rfl) ?_ _
      refine NoPanic.normal ?_
      go_wp2
      go_ret2
      exact ⟨by rw [← Hr3.out]; rfl, by (repeat' (first | (with_reducible exact Below.refl _ _) | (with_reducible assumption) | (with_reducible refine Below.alloc ?_ ?_ _) | (with_reducible refine Below.drew ?_) | (with_reducible refine below_drewN ?_ _) | (with_reducible refine Below.setCell ?_ ?_ _) | (with_reducible refine Below.trans ?_ (Below.mono (by assumption) ?_)) | (first | omega | (simp only [World.size_alloc, World.size_setCell, World.size_drew]; omega) | (simp; omega) | (simp; done))))⟩
end Go.Proofs.Ytphpfapfdngdcaa
