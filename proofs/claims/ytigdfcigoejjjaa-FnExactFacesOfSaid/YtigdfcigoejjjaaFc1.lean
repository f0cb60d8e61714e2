/- The faces of a rotation: the program's and the reference's answers. No statement of the program is proved here. -/
import Derived.Test.YtigdfcigoejjjaaGe2
import Derived.Test.YtigdfcigoejjjaaLm1
namespace Go.Proofs.Ytigdfcigoejjjaa
open Go.RowKit
set_option linter.unusedSimpArgs false
set_option linter.unusedVariables false
set_option maxRecDepth 20000

theorem OwnLL.fr {w : World} {base : Nat} {v : Value} {xss : List (List Int)} (h : OwnLL w base v xss) : ∃ A c, v = .slice A xss.length c ∧ FrL w base A xss := by
  obtain ⟨top, ht, vs, h1, h2, h3⟩ := h
  obtain ⟨A, c, rfl⟩ := own_form h1
  refine ⟨A, c, rfl, ?_⟩
  obtain ⟨hl, h4⟩ := h1
  rcases h4 with ⟨_, h5⟩ | ⟨g, cap, cur, h4, hg, hh, h5, h6, h7, h8⟩
  · exact .inl (List.eq_nil_of_length_eq_zero h5)
  · injection h4 with h4 _ _
    subst h4
    have key : ∀ j, j < xss.length → ∃ A' c', vs.getD j undef = .slice A' (xss.getD j []).length c' ∧ FrI w base A' (xss.getD j []) ∧ ∀ g' o, A' = some ⟨g', o, none⟩ → g' ≠ g ∧ (vs.getD j undef).ownBlock = some g' := by
      intro j hj
      obtain ⟨A', c', e⟩ := own_form (h2 j hj).1
      have ho := (h2 j hj).1
      rw [e] at ho
      refine ⟨A', c', e, own_frI ho, fun g' o hA => ?_⟩
      subst hA
      refine ⟨?_, by rw [e]; rfl⟩
      rcases ho.2 with ⟨h9, _⟩ | ⟨b, cap2, cur2, h9, _, hh2, _⟩
      · cases h9
      · injection h9 with h9 _ _
        injection h9 with h9
        injection h9 with h9 _ _
        subst h9
        exact blk_ne (c1 := cur2) (c2 := cur) hh2 hh (by decide)
    refine .inr ⟨g, 0, fun j => match vs.getD j undef with | .slice A' _ _ => A' | _ => none, rfl, hg, Blk.lt (t := 25) (cs := cur) hh, ?_, ?_, ?_, ?_⟩
    · intro j hj
      obtain ⟨A', c', e, _⟩ := key j hj
      refine ⟨c', ?_⟩
      simp only [e]
      have h9 : vs[j]? = some (vs.getD j undef) := by
        have hj2 : j < vs.length := by omega
        simp [List.getD, hj2]
      rw [Nat.zero_add, Blk.cell (t := 25) hh, ← e, ← h9, ← h8, List.getElem?_take_of_lt (by omega), Array.getElem?_toList]
    · intro j hj
      obtain ⟨A', c', e, hf, _⟩ := key j hj
      simp only [e]
      exact hf
    · intro j hj g' o hA
      obtain ⟨A', c', e, _, hk⟩ := key j hj
      simp only [e] at hA
      exact (hk g' o hA).1
    · intro i j hi hj hij g' o o' hAi hAj
      obtain ⟨A1, c1, e1, _, hk1⟩ := key i hi
      obtain ⟨A2, c2, e2, _, hk2⟩ := key j hj
      simp only [e1] at hAi
      simp only [e2] at hAj
      exact h3 i j hi hj hij g' (hk1 g' o hAi).2 (hk2 g' o' hAj).2
/-- What FacesOf returns. -/
def fcOf (n : Int) (es : List (Int × Int)) (rot : List Int) : List (List Int) × Int :=
  (if isGraphB n es && rotB n rot then facesV es rot else [], gcode (isGraphB n es) (rotB n rot))
/-- A returned list of lists with a second result. -/
def RetL (w : World) (n0 : Nat) (e : Ending) (xss : List (List Int)) (v : Value) : Prop := ∃ A c, e = .returned (.tuple #[.slice A xss.length c, v]) ∧ FrL w n0 A xss
set_option maxHeartbeats 4000000 in
theorem implFc_b (n : Int) (A : Option Addr) (c : Nat) (es : List (Int × Int)) (B : Option Addr) (cb : Nat) (rot : List Int) (w : World) (hl : es.length ≤ 1048576) (hlx : rot.length ≤ 1048576) (hr : RdE w A es) (hx : RdI w B rot) (r : List (List Int)) (v : Int) (Hr : Hid ((fcOf n es rot).1 = r)) (Hv : Hid ((fcOf n es rot).2 = v)) :
    Calls Try.prog 13 #[.agg #[.int .i64 n, .slice A es.length c], .slice B rot.length cb] w fun e w' => RetL w' w.heap.size e r (.int .i64 v) ∧ Below w.heap.size w w' := by
  obtain ⟨qg, hg⟩ : ∃ q, Hid (isGraphB n es = q) := ⟨_, rfl⟩
  obtain ⟨qs, hs⟩ : ∃ q, Hid (rotB n rot = q) := ⟨_, rfl⟩
  have cr := Lib.hid fun W (hW : Below w.heap.size w W) => isRotation_b n A es.length c B cb rot W qs hs hlx (hx.below hW)
  have cg := Lib.hid fun W (hW : Below w.heap.size w W) => graphCode_b n A c es W qg qs hg hl (hr.below hW)
  have hr1 := Hr.out
  have hv1 := Hv.out
  rw [fcOf, hg.out, hs.out] at hr1 hv1
  by_cases hall : qg = true ∧ qs = true
  · obtain ⟨rfl, rfl⟩ := hall
    have hlen := isGraphB_len hg.out
    have cf := Lib.hid fun W (hW : Below w.heap.size w W) => faces_b n A c es B cb rot W hg.out (rotB_is hs.out) (by omega) (hr.below hW) (hx.below hW)
    have hgc : gcode true true = 0 := rfl
    rw [hgc] at cg
    simp only [Bool.and_self, if_true] at hr1 hv1
    rw [hgc] at hv1
    rw [hr1] at cf
    subst hv1
    clear hr hx hg hs Hr Hv hr1
    generalize es.length = L at *
    generalize rot.length = M at *
    go_enter Try.func13, Try.ntmps13
    go_wp2
    refine wp_region_noPanic ?_
    refine wp_region_held_drew (S := (fun w' => w'.cell? ⟨w.heap.size, 0, none⟩ = some (.int .i64 n) ∧ w'.cell? ⟨w.heap.size, 1, none⟩ = some (.slice A L c))) (by kernel_rfl) ?_ (fun hHeld => ?_)
    · (try dsimp only); (first | go_keep | (obtain ⟨hq, _⟩ := bcell ‹Below _ _ _›; (repeat' apply And.intro) <;> (rw [hq _ _ (by first | assumption | omega | (simp; done) | (simp; omega) | (simp; assumption))] <;> (first | assumption | (simp [*]; done)))))
    refine wpAnyH_take_d (i := 0) (d := some 7) (v := ?v1) rfl rfl (by kernel_rfl) (by kernel_rfl) (by kernel_rfl) (fun _ _ _ h => h) (Or.inl ⟨by kernel_rfl, ?y1⟩) (by assumption) ?_
    case y1 => (intro w' hSw; (try dsimp only at hSw); go_simp; try with_reducible rfl)
    try simp only [Act.put, List.setIfInBounds_toArray, List.set_cons_zero, List.set_cons_succ]
    refine wpAnyH_take_d (i := 1) (d := some 8) (v := ?v2) rfl rfl (by kernel_rfl) (by kernel_rfl) (by kernel_rfl) (fun _ _ _ h => h) (Or.inl ⟨by kernel_rfl, ?y2⟩) (by assumption) ?_
    case y2 => (intro w' hSw; (try dsimp only at hSw); go_simp; try with_reducible rfl)
    try simp only [Act.put, List.setIfInBounds_toArray, List.set_cons_zero, List.set_cons_succ]
    refine wpAnyH_take_d (i := 2) (d := some 9) (v := ?v3) rfl rfl (by kernel_rfl) (by kernel_rfl) (by kernel_rfl) (fun _ _ _ h => h) (Or.inl ⟨by kernel_rfl, ?y3⟩) (by assumption) ?_
    case y3 => (intro w' hSw; (try dsimp only at hSw); go_simp; try with_reducible rfl)
    try simp only [Act.put, List.setIfInBounds_toArray, List.set_cons_zero, List.set_cons_succ]
    refine wpAnyH_ready (rs := [3]) (by kernel_rfl) (by simp) ?_
    refine AllReadyH.cons rfl (fun K hK => ?_) AllReadyH.nil
    go_simp
    refine (cr.out _ (by (repeat' (first | (with_reducible exact Below.refl _ _) | (with_reducible assumption) | (with_reducible refine Below.alloc ?_ ?_ _) | (with_reducible refine Below.drew ?_) | (with_reducible refine below_drewN ?_ _) | (with_reducible refine Below.setCell ?_ ?_ _) | (with_reducible refine Below.trans ?_ (Below.mono (by assumption) ?_)) | (first | omega | (simp only [World.size_alloc, World.size_setCell, World.size_drew]; omega) | (simp; omega) | (simp; done)))))).mono ?_; rintro e w1 ⟨rfl, hb1⟩; have z1 := hb1.size; (try simp only [World.size_alloc, World.size_setCell, World.size_drew] at z1)
    refine hK.out _ _ ?s4 (fun hHeld4 => ?_)
    case s4 => ((try dsimp only); (first | go_keep | (obtain ⟨hq, _⟩ := bcell ‹Below _ _ _›; (repeat' apply And.intro) <;> (rw [hq _ _ (by first | assumption | omega | (simp; done) | (simp; omega) | (simp; assumption))] <;> (first | assumption | (simp [*]; done))))))
    clear hK K hHeld
    have hHeld := hHeld4; clear hHeld4
    try simp only [Act.put, List.setIfInBounds_toArray, List.set_cons_zero, List.set_cons_succ]
    refine wpAnyH_ready (rs := [4]) (by kernel_rfl) (by simp) ?_
    refine AllReadyH.cons rfl (fun K hK => ?_) AllReadyH.nil
    go_simp
    refine (cg.out _ (by (repeat' (first | (with_reducible exact Below.refl _ _) | (with_reducible assumption) | (with_reducible refine Below.alloc ?_ ?_ _) | (with_reducible refine Below.drew ?_) | (with_reducible refine below_drewN ?_ _) | (with_reducible refine Below.setCell ?_ ?_ _) | (with_reducible refine Below.trans ?_ (Below.mono (by assumption) ?_)) | (first | omega | (simp only [World.size_alloc, World.size_setCell, World.size_drew]; omega) | (simp; omega) | (simp; done)))))).mono ?_; rintro e w2 ⟨rfl, hb2⟩; have z2 := hb2.size; (try simp only [World.size_alloc, World.size_setCell, World.size_drew] at z2)
    refine hK.out _ _ ?s5 (fun hHeld5 => ?_)
    case s5 => ((try dsimp only); (first | go_keep | (obtain ⟨hq, _⟩ := bcell ‹Below _ _ _›; (repeat' apply And.intro) <;> (rw [hq _ _ (by first | assumption | omega | (simp; done) | (simp; omega) | (simp; assumption))] <;> (first | assumption | (simp [*]; done))))))
    clear hK K hHeld
    have hHeld := hHeld5; clear hHeld5
    try simp only [Act.put, List.setIfInBounds_toArray, List.set_cons_zero, List.set_cons_succ]
    refine wpAnyH_take_d (i := 5) (d := some 6) (v := ?v6) rfl rfl (by kernel_rfl) (by kernel_rfl) (by kernel_rfl) (fun _ _ _ h => h) (Or.inl ⟨by kernel_rfl, ?y6⟩) (by assumption) ?_
    case y6 => (intro w' hSw; (try dsimp only at hSw); go_simp; try with_reducible rfl)
    try simp only [Act.put, List.setIfInBounds_toArray, List.set_cons_zero, List.set_cons_succ]
    refine wpAnyH_done (by kernel_rfl) ?_ _
    refine NoPanic.normal ?_
    clear hHeld
    have B1 : Below w.heap.size w w2 := by (repeat' (first | (with_reducible exact Below.refl _ _) | (with_reducible assumption) | (with_reducible refine Below.alloc ?_ ?_ _) | (with_reducible refine Below.drew ?_) | (with_reducible refine below_drewN ?_ _) | (with_reducible refine Below.setCell ?_ ?_ _) | (with_reducible refine Below.trans ?_ (Below.mono (by assumption) ?_)) | (first | omega | (simp only [World.size_alloc, World.size_setCell, World.size_drew]; omega) | (simp; omega) | (simp; done))))
    have K1 : Blk w2 w.heap.size 32 #[.int .i64 n, .slice A L c] := (((Blk.new w _ _).drew.below hb1 (by (try simp only [World.size_alloc, World.size_drew]); omega))).below hb2 (by omega)
    have k0 := K1.cellAt 0 _ rfl
    have k1 := K1.cellAt 1 _ rfl
    have hwl := K1.lt
    clear hb1 hb2
    go_wp2_with fail
    refine (cf.out _ B1).mono ?_
    rintro e w4 ⟨v4, rfl, hLL, hb4⟩
    have B4 := B1.trans (hb4.mono B1.size)
    obtain ⟨A4, c4, rfl, hF⟩ := hLL.fr
    have hF4 := Lib.hid (hF.mono (n1 := w.heap.size) B1.size)
    clear hLL hF hb4
    go_wp2
    go_ret2
    exact ⟨⟨A4, c4, rfl, hF4.out⟩, B4⟩
  · have g0 : v = gcode qg qs ∧ r = [] := by
      cases qg <;> cases qs <;> simp_all
    obtain ⟨rfl, rfl⟩ := g0
    obtain ⟨v, Hv9⟩ : ∃ v, Hid (gcode qg qs = v) := ⟨_, rfl⟩
    have g1 : (v != 0) = true := by
      have := Hv9.out
      cases qg <;> cases qs <;> simp_all [gcode]
      all_goals (subst this; decide)
    have g2 : (v == 0) = false := by simpa using g1
    rw [Hv9.out] at cg ⊢
    clear hr hg hx hs Hr Hv hall hr1 hv1
    generalize es.length = L at *
    generalize rot.length = M at *
    go_enter Try.func13, Try.ntmps13
    go_wp2
    refine wp_region_noPanic ?_
    refine wp_region_held_drew (S := (fun w' => w'.cell? ⟨w.heap.size, 0, none⟩ = some (.int .i64 n) ∧ w'.cell? ⟨w.heap.size, 1, none⟩ = some (.slice A L c))) (by kernel_rfl) ?_ (fun hHeld => ?_)
    · (try dsimp only); (first | go_keep | (obtain ⟨hq, _⟩ := bcell ‹Below _ _ _›; (repeat' apply And.intro) <;> (rw [hq _ _ (by first | assumption | omega | (simp; done) | (simp; omega) | (simp; assumption))] <;> (first | assumption | (simp [*]; done)))))
    refine wpAnyH_take_d (i := 0) (d := some 7) (v := ?v7) rfl rfl (by kernel_rfl) (by kernel_rfl) (by kernel_rfl) (fun _ _ _ h => h) (Or.inl ⟨by kernel_rfl, ?y7⟩) (by assumption) ?_
    case y7 => (intro w' hSw; (try dsimp only at hSw); go_simp; try with_reducible rfl)
    try simp only [Act.put, List.setIfInBounds_toArray, List.set_cons_zero, List.set_cons_succ]
    refine wpAnyH_take_d (i := 1) (d := some 8) (v := ?v8) rfl rfl (by kernel_rfl) (by kernel_rfl) (by kernel_rfl) (fun _ _ _ h => h) (Or.inl ⟨by kernel_rfl, ?y8⟩) (by assumption) ?_
    case y8 => (intro w' hSw; (try dsimp only at hSw); go_simp; try with_reducible rfl)
    try simp only [Act.put, List.setIfInBounds_toArray, List.set_cons_zero, List.set_cons_succ]
    refine wpAnyH_take_d (i := 2) (d := some 9) (v := ?v9) rfl rfl (by kernel_rfl) (by kernel_rfl) (by kernel_rfl) (fun _ _ _ h => h) (Or.inl ⟨by kernel_rfl, ?y9⟩) (by assumption) ?_
    case y9 => (intro w' hSw; (try dsimp only at hSw); go_simp; try with_reducible rfl)
    try simp only [Act.put, List.setIfInBounds_toArray, List.set_cons_zero, List.set_cons_succ]
    refine wpAnyH_ready (rs := [3]) (by kernel_rfl) (by simp) ?_
    refine AllReadyH.cons rfl (fun K hK => ?_) AllReadyH.nil
    go_simp
    refine (cr.out _ (by (repeat' (first | (with_reducible exact Below.refl _ _) | (with_reducible assumption) | (with_reducible refine Below.alloc ?_ ?_ _) | (with_reducible refine Below.drew ?_) | (with_reducible refine below_drewN ?_ _) | (with_reducible refine Below.setCell ?_ ?_ _) | (with_reducible refine Below.trans ?_ (Below.mono (by assumption) ?_)) | (first | omega | (simp only [World.size_alloc, World.size_setCell, World.size_drew]; omega) | (simp; omega) | (simp; done)))))).mono ?_; rintro e w1 ⟨rfl, hb1⟩; have z1 := hb1.size; (try simp only [World.size_alloc, World.size_setCell, World.size_drew] at z1)
    refine hK.out _ _ ?s10 (fun hHeld10 => ?_)
    case s10 => ((try dsimp only); (first | go_keep | (obtain ⟨hq, _⟩ := bcell ‹Below _ _ _›; (repeat' apply And.intro) <;> (rw [hq _ _ (by first | assumption | omega | (simp; done) | (simp; omega) | (simp; assumption))] <;> (first | assumption | (simp [*]; done))))))
    clear hK K hHeld
    have hHeld := hHeld10; clear hHeld10
    try simp only [Act.put, List.setIfInBounds_toArray, List.set_cons_zero, List.set_cons_succ]
    refine wpAnyH_ready (rs := [4]) (by kernel_rfl) (by simp) ?_
    refine AllReadyH.cons rfl (fun K hK => ?_) AllReadyH.nil
    go_simp
    refine (cg.out _ (by (repeat' (first | (with_reducible exact Below.refl _ _) | (with_reducible assumption) | (with_reducible refine Below.alloc ?_ ?_ _) | (with_reducible refine Below.drew ?_) | (with_reducible refine below_drewN ?_ _) | (with_reducible refine Below.setCell ?_ ?_ _) | (with_reducible refine Below.trans ?_ (Below.mono (by assumption) ?_)) | (first | omega | (simp only [World.size_alloc, World.size_setCell, World.size_drew]; omega) | (simp; omega) | (simp; done)))))).mono ?_; rintro e w2 ⟨rfl, hb2⟩; have z2 := hb2.size; (try simp only [World.size_alloc, World.size_setCell, World.size_drew] at z2)
    refine hK.out _ _ ?s11 (fun hHeld11 => ?_)
    case s11 => ((try dsimp only); (first | go_keep | (obtain ⟨hq, _⟩ := bcell ‹Below _ _ _›; (repeat' apply And.intro) <;> (rw [hq _ _ (by first | assumption | omega | (simp; done) | (simp; omega) | (simp; assumption))] <;> (first | assumption | (simp [*]; done))))))
    clear hK K hHeld
    have hHeld := hHeld11; clear hHeld11
    try simp only [Act.put, List.setIfInBounds_toArray, List.set_cons_zero, List.set_cons_succ]
    refine wpAnyH_take_d (i := 5) (d := some 6) (v := ?v12) rfl rfl (by kernel_rfl) (by kernel_rfl) (by kernel_rfl) (fun _ _ _ h => h) (Or.inl ⟨by kernel_rfl, ?y12⟩) (by assumption) ?_
    case y12 => (intro w' hSw; (try dsimp only at hSw); go_simp; try with_reducible rfl)
    try simp only [Act.put, List.setIfInBounds_toArray, List.set_cons_zero, List.set_cons_succ]
    refine wpAnyH_done (by kernel_rfl) ?_ _
    refine NoPanic.normal ?_
    clear hHeld
    have B1 : Below w.heap.size w w2 := by (repeat' (first | (with_reducible exact Below.refl _ _) | (with_reducible assumption) | (with_reducible refine Below.alloc ?_ ?_ _) | (with_reducible refine Below.drew ?_) | (with_reducible refine below_drewN ?_ _) | (with_reducible refine Below.setCell ?_ ?_ _) | (with_reducible refine Below.trans ?_ (Below.mono (by assumption) ?_)) | (first | omega | (simp only [World.size_alloc, World.size_setCell, World.size_drew]; omega) | (simp; omega) | (simp; done))))
    have K1 : Blk w2 w.heap.size 32 #[.int .i64 n, .slice A L c] := (((Blk.new w _ _).drew.below hb1 (by (try simp only [World.size_alloc, World.size_drew]); omega))).below hb2 (by omega)
    have k0 := K1.cellAt 0 _ rfl
    have k1 := K1.cellAt 1 _ rfl
    have hwl := K1.lt
    clear hb1 hb2
    go_wp2
    go_ret2
    exact ⟨⟨none, 0, rfl, .inl rfl⟩, B1⟩
set_option maxHeartbeats 4000000 in
theorem specFc_b (n : Int) (A : Option Addr) (c : Nat) (es : List (Int × Int)) (B : Option Addr) (cb : Nat) (rot : List Int) (w : World) (hl : es.length ≤ 1048576) (hlx : rot.length ≤ 1048576) (hr : RdE w A es) (hx : RdI w B rot) (r : List (List Int)) (v : Int) (Hr : Hid ((fcOf n es rot).1 = r)) (Hv : Hid ((fcOf n es rot).2 = v)) :
    Calls Try.prog 10 #[.agg #[.int .i64 n, .slice A es.length c], .slice B rot.length cb] w fun e w' => RetL w' w.heap.size e r (.int .i64 v) ∧ Below w.heap.size w w' := by
  obtain ⟨qg, hg⟩ : ∃ q, Hid (isGraphB n es = q) := ⟨_, rfl⟩
  obtain ⟨qs, hs⟩ : ∃ q, Hid (rotB n rot = q) := ⟨_, rfl⟩
  have cg := Lib.hid fun W (hW : Below w.heap.size w W) => l07Rotation_b n A c es B cb rot W qg qs hg hs hl hlx (hr.below hW) (hx.below hW)
  have hr1 := Hr.out
  have hv1 := Hv.out
  rw [fcOf, hg.out, hs.out] at hr1 hv1
  by_cases hall : qg = true ∧ qs = true
  · obtain ⟨rfl, rfl⟩ := hall
    have hlen := isGraphB_len hg.out
    have cf := Lib.hid fun W (hW : Below w.heap.size w W) => l07Faces_b n A c es B cb rot W hg.out (rotB_is hs.out) (by omega) (hr.below hW) (hx.below hW)
    have hgc : gcode true true = 0 := rfl
    rw [hgc] at cg
    simp only [Bool.and_self, if_true] at hr1 hv1
    rw [hgc] at hv1
    rw [hr1] at cf
    subst hv1
    clear hr hx hg hs Hr Hv hr1
    generalize es.length = L at *
    generalize rot.length = M at *
    go_enter Try.func10, Try.ntmps10
    go_wp2_with fail
    refine (cg.out _ (by (repeat' (first | (with_reducible exact Below.refl _ _) | (with_reducible assumption) | (with_reducible refine Below.alloc ?_ ?_ _) | (with_reducible refine Below.drew ?_) | (with_reducible refine below_drewN ?_ _) | (with_reducible refine Below.setCell ?_ ?_ _) | (with_reducible refine Below.trans ?_ (Below.mono (by assumption) ?_)) | (first | omega | (simp only [World.size_alloc, World.size_setCell, World.size_drew]; omega) | (simp; omega) | (simp; done)))))).mono ?_
    rintro e w2 ⟨rfl, hb2⟩
    have B1 : Below w.heap.size w w2 := by (repeat' (first | (with_reducible exact Below.refl _ _) | (with_reducible assumption) | (with_reducible refine Below.alloc ?_ ?_ _) | (with_reducible refine Below.drew ?_) | (with_reducible refine below_drewN ?_ _) | (with_reducible refine Below.setCell ?_ ?_ _) | (with_reducible refine Below.trans ?_ (Below.mono (by assumption) ?_)) | (first | omega | (simp only [World.size_alloc, World.size_setCell, World.size_drew]; omega) | (simp; omega) | (simp; done))))
    have K1 : Blk w2 w.heap.size 32 #[.int .i64 n, .slice A L c] := (Blk.new w _ _).below hb2 (by (first | omega | (simp only [World.size_alloc, World.size_setCell, World.size_drew]; omega) | (simp; omega) | (simp; done)))
    have k0 := K1.cellAt 0 _ rfl
    have k1 := K1.cellAt 1 _ rfl
    have hwl := K1.lt
    clear hb2
    go_wp2_with fail
    refine (cf.out _ B1).mono ?_
    rintro e w4 ⟨v4, rfl, hLL, hb4⟩
    have B4 := B1.trans (hb4.mono B1.size)
    obtain ⟨A4, c4, rfl, hF⟩ := hLL.fr
    have hF4 := Lib.hid (hF.mono (n1 := w.heap.size) B1.size)
    clear hLL hF hb4
    go_wp2
    go_ret2
    exact ⟨⟨A4, c4, rfl, hF4.out⟩, B4⟩
  · have g0 : v = gcode qg qs ∧ r = [] := by
      cases qg <;> cases qs <;> simp_all
    obtain ⟨rfl, rfl⟩ := g0
    obtain ⟨v, Hv9⟩ : ∃ v, Hid (gcode qg qs = v) := ⟨_, rfl⟩
    have g1 : (v != 0) = true := by
      have := Hv9.out
      cases qg <;> cases qs <;> simp_all [gcode]
      all_goals (subst this; decide)
    have g2 : (v == 0) = false := by simpa using g1
    rw [Hv9.out] at cg ⊢
    clear hr hg hx hs Hr Hv hall hr1 hv1
    generalize es.length = L at *
    generalize rot.length = M at *
    go_enter Try.func10, Try.ntmps10
    go_wp2_with fail
    refine (cg.out _ (by (repeat' (first | (with_reducible exact Below.refl _ _) | (with_reducible assumption) | (with_reducible refine Below.alloc ?_ ?_ _) | (with_reducible refine Below.drew ?_) | (with_reducible refine below_drewN ?_ _) | (with_reducible refine Below.setCell ?_ ?_ _) | (with_reducible refine Below.trans ?_ (Below.mono (by assumption) ?_)) | (first | omega | (simp only [World.size_alloc, World.size_setCell, World.size_drew]; omega) | (simp; omega) | (simp; done)))))).mono ?_
    rintro e w2 ⟨rfl, hb2⟩
    have B1 : Below w.heap.size w w2 := by (repeat' (first | (with_reducible exact Below.refl _ _) | (with_reducible assumption) | (with_reducible refine Below.alloc ?_ ?_ _) | (with_reducible refine Below.drew ?_) | (with_reducible refine below_drewN ?_ _) | (with_reducible refine Below.setCell ?_ ?_ _) | (with_reducible refine Below.trans ?_ (Below.mono (by assumption) ?_)) | (first | omega | (simp only [World.size_alloc, World.size_setCell, World.size_drew]; omega) | (simp; omega) | (simp; done))))
    have K1 : Blk w2 w.heap.size 32 #[.int .i64 n, .slice A L c] := (Blk.new w _ _).below hb2 (by (first | omega | (simp only [World.size_alloc, World.size_setCell, World.size_drew]; omega) | (simp; omega) | (simp; done)))
    have k0 := K1.cellAt 0 _ rfl
    have k1 := K1.cellAt 1 _ rfl
    have hwl := K1.lt
    clear hb2
    go_wp2
    go_ret2
    exact ⟨⟨none, 0, rfl, .inl rfl⟩, B1⟩
theorem RetL.open_ {w : World} {n0 M : Nat} {e : Ending} {xss : List (List Int)} {v : Value} (h : RetL w n0 e xss v) (hM : xss.length = M) : ∃ A c, e = .returned (.tuple #[.slice A M c, v]) ∧ FrL w n0 A xss := by
  obtain ⟨A, c, rfl, hf⟩ := h
  exact ⟨A, c, by rw [hM], hf⟩
end Go.Proofs.Ytigdfcigoejjjaa
