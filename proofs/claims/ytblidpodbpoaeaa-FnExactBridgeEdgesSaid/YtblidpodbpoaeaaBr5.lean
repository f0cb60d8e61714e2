/- BridgeEdges of impl and of the reference, at every input. No statement of the program is proved here. -/
import Derived.Test.YtblidpodbpoaeaaBr4
namespace Go.Proofs.Ytblidpodbpoaeaa
open Go.RowKit
set_option linter.unusedSimpArgs false
set_option linter.unusedVariables false
set_option maxRecDepth 20000

set_option maxHeartbeats 4000000 in
/-- The graph. -/
theorem implBridge_yes (n : Int) (A : Option Addr) (c : Nat) (es : List (Int × Int)) (a b : Int) (w : World) (hl : es.length ≤ 1000) (hr : RdE w A es) (hq : Hid (isGraphB n es = true)) (ha : Hid (inB a 0 ((es.length : Int) - 1) = true)) (hb : Hid (inB b 0 ((es.length : Int) - 1) = true)) (hab : a ≠ b) (hn : 2 ≤ n ∧ n ≤ 20)
    (N : Int) (rs : List (Int × Int)) (v : Int) (R0 : Hid ((limV (n + 2) (brL false n a b es es.length)).1 = N)) (R1 : Hid ((limV (n + 2) (brL false n a b es es.length)).2.1 = rs)) (R2 : Hid ((limV (n + 2) (brL false n a b es es.length)).2.2 = v)) :
    Calls Try.prog 18 #[.agg #[.int .i64 n, .slice A es.length c], .int .i64 a, .int .i64 b] w fun e w' => RetG w' w.heap.size e N rs v ∧ Below w.heap.size w w' := by
  have hmf : ∀ (fn : Fn) (first cap : Array Value) (w : World), (Instr.makeFunc fn first cap).run Try.prog w = .ok (.func fn first cap) w := fun _ _ _ _ => rfl
  have ca := fun W => isEdge_b n A es.length c a W true ha (by omega)
  have cb := fun W => isEdge_b n A es.length c b W true hb (by omega)
  have cg := fun W (hW : Below w.heap.size w W) => graphCode_b n A c es W true (true && true) hq (by omega) (hr.below hW)
  have hlen := brL_len false n a b es es.length
  have cl := Lib.hid fun W lb hp => limited_b (n + 2) 45 lb (brL false n a b es es.length) W ent_bridge1 hlen.1 (by omega) hp
  simp only [R0.out, R1.out, R2.out] at cl
  have cf := Lib.hid fun (h : n + 2 ≤ 20) (gg ga gb : Nat) (W : World) (hW : Below w.heap.size w W) => bridge1_b gg ga gb n A c es a b W (by omega) (hr.below hW) hab ⟨hn.1, h⟩
  have g1 : (a == b) = false := by simpa using hab
  obtain ⟨M, HM⟩ : ∃ M, Hid (rs.length = M) := ⟨_, rfl⟩
  rw [show gcode true (true && true) = 0 from rfl] at cg
  have p2 : wrap64 (n + 2) = n + 2 := wrap64_small (by omega) (by omega)
  clear hr hq ha hb hab R0 R1 R2 hlen hn
  generalize brL false n a b es es.length = X at *
  generalize es.length = m at *
  have kb : ((((w.alloc (.cells #[.int .i64 n, .slice A m c] 24)).alloc (.cells #[.int .i64 a] 2)).alloc (.cells #[.int .i64 b] 2)).alloc (.cells #[.int .i64 0, .slice none 0 0] 24)).cell? ⟨w.heap.size + 1 + 1, 0, none⟩ = some (.int .i64 b) := ((Blk.new' (n := w.heap.size + 1 + 1) _ (by simp)).alloc _).cellAt 0 _ rfl
  go_enter Try.func18, Try.ntmps18
  go_wp2
  refine wp_region_noPanic ?_
  refine wp_region_held_drew (S := (fun w' => w'.cell? ⟨w.heap.size, 0, none⟩ = some (.int .i64 n) ∧ w'.cell? ⟨w.heap.size, 1, none⟩ = some (.slice A m c) ∧ w'.cell? ⟨w.heap.size + 1, 0, none⟩ = some (.int .i64 a) ∧ w'.cell? ⟨w.heap.size + 1 + 1, 0, none⟩ = some (.int .i64 b))) (by kernel_rfl) ?_ (fun hHeld => ?_)
  · (try dsimp only); (first | go_keep | (obtain ⟨hq, _⟩ := bcell ‹Below _ _ _›; (repeat' apply And.intro) <;> (rw [hq _ _ (by first | assumption | omega | (simp; done) | (simp; omega) | (simp; assumption))] <;> (first | assumption | (simp [*]; done)))))
  refine wpAnyH_take_d (i := 0) (d := some 9) (v := ?v1) rfl rfl (by kernel_rfl) (by kernel_rfl) (by kernel_rfl) (fun _ _ _ h => h) (Or.inl ⟨by kernel_rfl, ?y1⟩) (by assumption) ?_
  case y1 => (intro w' hSw; (try dsimp only at hSw); go_simp; try with_reducible rfl)
  try simp only [Act.put, List.setIfInBounds_toArray, List.set_cons_zero, List.set_cons_succ]
  refine wpAnyH_take_d (i := 1) (d := some 10) (v := ?v2) rfl rfl (by kernel_rfl) (by kernel_rfl) (by kernel_rfl) (fun _ _ _ h => h) (Or.inl ⟨by kernel_rfl, ?y2⟩) (by assumption) ?_
  case y2 => (intro w' hSw; (try dsimp only at hSw); go_simp; try with_reducible rfl)
  try simp only [Act.put, List.setIfInBounds_toArray, List.set_cons_zero, List.set_cons_succ]
  refine wpAnyH_take_d (i := 2) (d := some 11) (v := ?v3) rfl rfl (by kernel_rfl) (by kernel_rfl) (by kernel_rfl) (fun _ _ _ h => h) (Or.inl ⟨by kernel_rfl, ?y3⟩) (by assumption) ?_
  case y3 => (intro w' hSw; (try dsimp only at hSw); go_simp; try with_reducible rfl)
  try simp only [Act.put, List.setIfInBounds_toArray, List.set_cons_zero, List.set_cons_succ]
  refine wpAnyH_ready (rs := [3]) (by kernel_rfl) (by simp) ?_
  refine AllReadyH.cons rfl (fun K hK => ?_) AllReadyH.nil
  go_simp
  refine (ca _).mono ?_; rintro e w1 ⟨rfl, hb1⟩; have z1 := hb1.size; (try simp only [World.size_alloc, World.size_setCell, World.size_drew] at z1)
  refine hK.out _ _ ?s4 (fun hHeld4 => ?_)
  case s4 => ((try dsimp only); (first | go_keep | (obtain ⟨hq, _⟩ := bcell ‹Below _ _ _›; (repeat' apply And.intro) <;> (rw [hq _ _ (by first | assumption | omega | (simp; done) | (simp; omega) | (simp; assumption))] <;> (first | assumption | (simp [*]; done))))))
  clear hK K hHeld
  have hHeld := hHeld4; clear hHeld4
  try simp only [Act.put, List.setIfInBounds_toArray, List.set_cons_zero, List.set_cons_succ]
  refine wpAnyH_take_d (i := 4) (d := some 13) (v := ?v5) rfl rfl (by kernel_rfl) (by kernel_rfl) (by kernel_rfl) (fun _ _ _ h => h) (Or.inl ⟨by kernel_rfl, ?y5⟩) (by assumption) ?_
  case y5 => (intro w' hSw; (try dsimp only at hSw); go_simp; try with_reducible rfl)
  try simp only [Act.put, List.setIfInBounds_toArray, List.set_cons_zero, List.set_cons_succ]
  refine wpAnyH_take_d (i := 5) (d := some 14) (v := ?v6) rfl rfl (by kernel_rfl) (by kernel_rfl) (by kernel_rfl) (fun _ _ _ h => h) (Or.inl ⟨by kernel_rfl, ?y6⟩) (by assumption) ?_
  case y6 => (intro w' hSw; (try dsimp only at hSw); go_simp; try with_reducible rfl)
  try simp only [Act.put, List.setIfInBounds_toArray, List.set_cons_zero, List.set_cons_succ]
  refine wpAnyH_take_d (i := 6) (d := some 15) (v := ?v7) rfl rfl (by kernel_rfl) (by kernel_rfl) (by kernel_rfl) (fun _ _ _ h => h) (Or.inl ⟨by kernel_rfl, ?y7⟩) (by assumption) ?_
  case y7 => (intro w' hSw; (try dsimp only at hSw); go_simp; try with_reducible rfl)
  try simp only [Act.put, List.setIfInBounds_toArray, List.set_cons_zero, List.set_cons_succ]
  refine wpAnyH_ready (rs := [7]) (by kernel_rfl) (by simp) ?_
  refine AllReadyH.cons rfl (fun K hK => ?_) AllReadyH.nil
  go_simp
  refine (cb _).mono ?_; rintro e w2 ⟨rfl, hb2⟩; have z2 := hb2.size; (try simp only [World.size_alloc, World.size_setCell, World.size_drew] at z2)
  refine hK.out _ _ ?s8 (fun hHeld8 => ?_)
  case s8 => ((try dsimp only); (first | go_keep | (obtain ⟨hq, _⟩ := bcell ‹Below _ _ _›; (repeat' apply And.intro) <;> (rw [hq _ _ (by first | assumption | omega | (simp; done) | (simp; omega) | (simp; assumption))] <;> (first | assumption | (simp [*]; done))))))
  clear hK K hHeld
  have hHeld := hHeld8; clear hHeld8
  try simp only [Act.put, List.setIfInBounds_toArray, List.set_cons_zero, List.set_cons_succ]
  refine wpAnyH_take_d (i := 8) (d := some 17) (v := ?v9) rfl rfl (by kernel_rfl) (by kernel_rfl) (by kernel_rfl) (fun _ _ _ h => h) (Or.inl ⟨by kernel_rfl, ?y9⟩) (by assumption) ?_
  case y9 => (intro w' hSw; (try dsimp only at hSw); go_simp; try with_reducible rfl)
  try simp only [Act.put, List.setIfInBounds_toArray, List.set_cons_zero, List.set_cons_succ]
  refine wpAnyH_ready (rs := [9]) (by kernel_rfl) (by simp) ?_
  refine AllReadyH.cons rfl (fun K hK => ?_) AllReadyH.nil
  go_simp
  refine (cg _ (by (repeat' (first | (with_reducible exact Below.refl _ _) | (with_reducible assumption) | (with_reducible refine Below.alloc ?_ ?_ _) | (with_reducible refine Below.drew ?_) | (with_reducible refine below_drewN ?_ _) | (with_reducible refine Below.setCell ?_ ?_ _) | (with_reducible refine Below.trans ?_ (Below.mono (by assumption) ?_)) | (first | omega | (simp only [World.size_alloc, World.size_setCell, World.size_drew]; omega) | (simp; omega) | (simp; done)))))).mono ?_; rintro e w3 ⟨rfl, hb3⟩; have z3 := hb3.size; (try simp only [World.size_alloc, World.size_setCell, World.size_drew] at z3)
  refine hK.out _ _ ?s10 (fun hHeld10 => ?_)
  case s10 => ((try dsimp only); (first | go_keep | (obtain ⟨hq, _⟩ := bcell ‹Below _ _ _›; (repeat' apply And.intro) <;> (rw [hq _ _ (by first | assumption | omega | (simp; done) | (simp; omega) | (simp; assumption))] <;> (first | assumption | (simp [*]; done))))))
  clear hK K hHeld
  have hHeld := hHeld10; clear hHeld10
  try simp only [Act.put, List.setIfInBounds_toArray, List.set_cons_zero, List.set_cons_succ]
  refine wpAnyH_take_d (i := 10) (d := some 8) (v := ?v11) rfl rfl (by kernel_rfl) (by kernel_rfl) (by kernel_rfl) (fun _ _ _ h => h) (Or.inl ⟨by kernel_rfl, ?y11⟩) (by assumption) ?_
  case y11 => (intro w' hSw; (try dsimp only at hSw); go_simp; try with_reducible rfl)
  try simp only [Act.put, List.setIfInBounds_toArray, List.set_cons_zero, List.set_cons_succ]
  refine wpAnyH_done (by kernel_rfl) ?_ _
  refine NoPanic.normal ?_
  clear hHeld
  have b3 : Below ((((w.alloc (.cells #[.int .i64 n, .slice A m c] 24)).alloc (.cells #[.int .i64 a] 2)).alloc (.cells #[.int .i64 b] 2)).alloc (.cells #[.int .i64 0, .slice none 0 0] 24)).heap.size ((((w.alloc (.cells #[.int .i64 n, .slice A m c] 24)).alloc (.cells #[.int .i64 a] 2)).alloc (.cells #[.int .i64 b] 2)).alloc (.cells #[.int .i64 0, .slice none 0 0] 24)) w3 := by (repeat' (first | (with_reducible exact Below.refl _ _) | (with_reducible assumption) | (with_reducible refine Below.alloc ?_ ?_ _) | (with_reducible refine Below.drew ?_) | (with_reducible refine below_drewN ?_ _) | (with_reducible refine Below.setCell ?_ ?_ _) | (with_reducible refine Below.trans ?_ (Below.mono (by assumption) ?_)) | (first | omega | (simp only [World.size_alloc, World.size_setCell, World.size_drew]; omega) | (simp; omega) | (simp; done))))
  have HZ := Lib.hid ((Blk.new' (n := w.heap.size + 1 + 1 + 1) _ (by simp)).below b3 (by simp) : Blk w3 (w.heap.size + 1 + 1 + 1) 24 #[.int .i64 0, .slice none 0 0])
  have HG := Lib.hid (((((Blk.new w _ _).alloc _).alloc _).alloc _).below b3 (by simp; omega) : Blk w3 w.heap.size 24 #[.int .i64 n, .slice A m c])
  have HA := Lib.hid ((((Blk.new' (n := w.heap.size + 1) _ (by simp)).alloc _).alloc _).below b3 (by simp) : Blk w3 (w.heap.size + 1) 2 #[.int .i64 a])
  have HB := Lib.hid (((Blk.new' (n := w.heap.size + 1 + 1) _ (by simp)).alloc _).below b3 (by simp) : Blk w3 (w.heap.size + 1 + 1) 2 #[.int .i64 b])
  have Hb1 : Hid (Below w.heap.size w w3) := by show Below _ _ _; exact Below.trans (b := ((((w.alloc (.cells #[.int .i64 n, .slice A m c] 24)).alloc (.cells #[.int .i64 a] 2)).alloc (.cells #[.int .i64 b] 2)).alloc (.cells #[.int .i64 0, .slice none 0 0] 24))) (by (repeat' (first | (with_reducible exact Below.refl _ _) | (with_reducible assumption) | (with_reducible refine Below.alloc ?_ ?_ _) | (with_reducible refine Below.drew ?_) | (with_reducible refine below_drewN ?_ _) | (with_reducible refine Below.setCell ?_ ?_ _) | (with_reducible refine Below.trans ?_ (Below.mono (by assumption) ?_)) | (first | omega | (simp only [World.size_alloc, World.size_setCell, World.size_drew]; omega) | (simp; omega) | (simp; done))))) (b3.mono (by simp; omega))
  have k0 := HG.out.cellAt 0 _ rfl
  have k1 := HA.out.cellAt 0 _ rfl
  have k2 := HB.out.cellAt 0 _ rfl
  have zz := HZ.out.lt
  clear b3 hb3 hb1 hb2 z1 z2 z3 ca cb cg kb
  go_wp2_with fail
  refine (cl.out w3 _ ?_).mono ?_
  · intro h20 W hW
    refine (cf.out (by omega) w.heap.size (w.heap.size + 1) (w.heap.size + 1 + 1) W (Hb1.out.trans (hW.mono (by omega))) (HG.out.below hW (by omega)) (HA.out.below hW (by omega)) (HB.out.below hW (by omega))).mono ?_
    rintro e w' h
    exact h
  rintro e w4 ⟨hq4, hb4⟩
  obtain ⟨A4, c4, rfl, hF⟩ := hq4.open_ HM.out
  have hZ4 := HZ.out.below hb4 zz
  have x0 := hZ4.cellAt 0 _ rfl
  have x1 : (w4.setCell ⟨w.heap.size + 1 + 1 + 1, 0, none⟩ (.int .i64 N)).cell? ⟨w.heap.size + 1 + 1 + 1, 1, none⟩ = some (.slice none 0 0) := (sc_other (by simp)).trans (hZ4.cellAt 1 _ rfl)
  have f0 := hZ4.frozen 0
  have f1 := hZ4.frozen 1
  have HZ4 := Lib.hid hZ4
  have HF := Lib.hid hF
  have Hb4 : Hid (Below w.heap.size w w4) := Hb1.out.trans (hb4.mono (by omega))
  clear hZ4 hF hb4 hq4 k0 k1 k2 HG HA HB HZ
  go_wp2
  refine ret_cell_tmp Try.results18 Try.underlying24 rfl (by kernel_rfl) rfl ((HZ4.out.set_ 0 (.int .i64 N)).set_ 1 (.slice A4 M c4)) rfl rfl ⟨⟨A4, c4, ?_, FrE.mono (n0 := w3.heap.size) ?_ (by omega)⟩, (Hb4.out.setCell (by show w.heap.size ≤ w.heap.size + 1 + 1 + 1; omega) _).setCell (by show w.heap.size ≤ w.heap.size + 1 + 1 + 1; omega) _⟩
  · rw [HM.out]; rfl
  · exact HF.out.away (((Only.refl _ _).set 0 _).set 1 _ : Only (some ⟨w.heap.size + 1 + 1 + 1, 0, none⟩) w4 _) zz

theorem gcode_no {qg qv : Bool} (h : ¬ (qg = true ∧ qv = true)) : gcode qg qv ≠ 0 := by
  cases qg <;> cases qv <;> simp_all [gcode]
theorem bridgeV_yes {n : Int} {es : List (Int × Int)} {a b : Int} (hg : isGraphB n es = true) (ha : inB a 0 ((es.length : Int) - 1) = true) (hb : inB b 0 ((es.length : Int) - 1) = true) (hab : a ≠ b) : bridgeV n es a b = limV (n + 2) (brL false n a b es es.length) := by
  simp [bridgeV, hg, ha, hb, hab]
theorem bridgeV_same {n : Int} {es : List (Int × Int)} {a b : Int} (hg : isGraphB n es = true) (ha : inB a 0 ((es.length : Int) - 1) = true) (hb : inB b 0 ((es.length : Int) - 1) = true) (hab : a = b) : bridgeV n es a b = (0, [], 5) := by
  subst hab; simp [bridgeV, hg, ha]
theorem bridgeV_no {n : Int} {es : List (Int × Int)} {a b : Int} (h : ¬ (isGraphB n es = true ∧ (inB a 0 ((es.length : Int) - 1) && inB b 0 ((es.length : Int) - 1)) = true)) : bridgeV n es a b = (0, [], gcode (isGraphB n es) (inB a 0 ((es.length : Int) - 1) && inB b 0 ((es.length : Int) - 1))) := by
  unfold bridgeV
  generalize isGraphB n es = qg at *
  generalize (inB a 0 ((es.length : Int) - 1) && inB b 0 ((es.length : Int) - 1)) = q at *
  cases qg <;> cases q <;> simp_all [gcode]

theorem implBridge_b (n : Int) (A : Option Addr) (c : Nat) (es : List (Int × Int)) (a b : Int) (w : World) (hl : es.length ≤ 1048576) (hr : RdE w A es) (N : Int) (rs : List (Int × Int)) (v : Int) (R0 : Hid ((bridgeV n es a b).1 = N)) (R1 : Hid ((bridgeV n es a b).2.1 = rs)) (R2 : Hid ((bridgeV n es a b).2.2 = v)) :
    Calls Try.prog 18 #[.agg #[.int .i64 n, .slice A es.length c], .int .i64 a, .int .i64 b] w fun e w' => RetG w' w.heap.size e N rs v ∧ Below w.heap.size w w' := by
  obtain ⟨qg, hg⟩ : ∃ q, isGraphB n es = q := ⟨_, rfl⟩
  obtain ⟨qa, ha⟩ : ∃ q, inB a 0 ((es.length : Int) - 1) = q := ⟨_, rfl⟩
  obtain ⟨qb, hb⟩ : ∃ q, inB b 0 ((es.length : Int) - 1) = q := ⟨_, rfl⟩
  by_cases hall : qg = true ∧ (qa && qb) = true
  · obtain ⟨rfl, h2⟩ := hall
    rw [Bool.and_eq_true] at h2
    obtain ⟨rfl, rfl⟩ := h2
    by_cases hab : a = b
    · rw [bridgeV_same hg ha hb hab] at R0 R1 R2
      obtain rfl : 0 = N := R0.out
      obtain rfl : [] = rs := R1.out
      obtain rfl : 5 = v := R2.out
      exact implBridge_errtrue n A c es a b w hl hr 5 true true hg ha hb (.inr ⟨rfl, hab, rfl⟩)
    · rw [bridgeV_yes hg ha hb hab] at R0 R1 R2
      have h30 := isGraphB_len hg
      have hn := isGraphB_n hg
      exact implBridge_yes n A c es a b w (by omega) hr hg ha hb hab (by omega) N rs v R0 R1 R2
  · rw [bridgeV_no (by rw [hg, ha, hb]; exact hall), hg, ha, hb] at R0 R1 R2
    obtain rfl : 0 = N := R0.out
    obtain rfl : [] = rs := R1.out
    have hv : gcode qg (qa && qb) = v := R2.out
    have hv0 : v ≠ 0 := by rw [← hv]; exact gcode_no hall
    cases qa
    · exact implBridge_errfalse n A c es a b w hl hr v qg qb hg ha hb (.inl ⟨hv, hv0⟩)
    · exact implBridge_errtrue n A c es a b w hl hr v qg qb hg ha hb (.inl ⟨hv, hv0⟩)

theorem specBridge_b (n : Int) (A : Option Addr) (c : Nat) (es : List (Int × Int)) (a b : Int) (w : World) (hl : es.length ≤ 1048576) (hr : RdE w A es) (N : Int) (rs : List (Int × Int)) (v : Int) (R0 : Hid ((bridgeV n es a b).1 = N)) (R1 : Hid ((bridgeV n es a b).2.1 = rs)) (R2 : Hid ((bridgeV n es a b).2.2 = v)) :
    Calls Try.prog 16 #[.agg #[.int .i64 n, .slice A es.length c], .int .i64 a, .int .i64 b] w fun e w' => RetG w' w.heap.size e N rs v ∧ Below w.heap.size w w' := by
  obtain ⟨qg, hg⟩ : ∃ q, isGraphB n es = q := ⟨_, rfl⟩
  obtain ⟨qa, ha⟩ : ∃ q, inB a 0 ((es.length : Int) - 1) = q := ⟨_, rfl⟩
  obtain ⟨qb, hb⟩ : ∃ q, inB b 0 ((es.length : Int) - 1) = q := ⟨_, rfl⟩
  have hv0 : [a, b].all (fun v => inB v 0 ((es.length : Int) - 1)) = (qa && qb) := by simp [ha, hb]
  by_cases hall : qg = true ∧ (qa && qb) = true
  · obtain ⟨rfl, h2⟩ := hall
    rw [h2] at hv0
    rw [Bool.and_eq_true] at h2
    obtain ⟨rfl, rfl⟩ := h2
    by_cases hab : a = b
    · rw [bridgeV_same hg ha hb hab] at R0 R1 R2
      obtain rfl : 0 = N := R0.out
      obtain rfl : [] = rs := R1.out
      obtain rfl : 5 = v := R2.out
      exact specBridge_err n A c es a b w hl hr 5 true true hg hv0 (.inr (.inl ⟨rfl, rfl, hab, rfl⟩))
    · rw [bridgeV_yes hg ha hb hab] at R0 R1 R2
      have h30 := isGraphB_len hg
      have hn := isGraphB_n hg
      by_cases h20 : n + 2 > 20
      · have hlv : limV (n + 2) (brL false n a b es es.length) = (0, [], 3) := by unfold limV; rw [if_pos h20]
        rw [hlv] at R0 R1 R2
        obtain rfl : 0 = N := R0.out
        obtain rfl : [] = rs := R1.out
        obtain rfl : 3 = v := R2.out
        exact specBridge_err n A c es a b w hl hr 3 true true hg hv0 (.inr (.inr ⟨rfl, rfl, hab, by omega, h20, rfl⟩))
      · have hlv : limV (n + 2) (brL false n a b es es.length) = (n + 2, madeE (brL false n a b es es.length), 0) := by unfold limV; rw [if_neg h20]
        rw [hlv] at R0 R1 R2
        obtain rfl : n + 2 = N := R0.out
        obtain rfl : madeE (brL false n a b es es.length) = rs := R1.out
        obtain rfl : 0 = v := R2.out
        rw [← brL_made]
        exact specBridge_yes n A c es a b w (by omega) hr hg hv0 hab (by omega)
  · rw [bridgeV_no (by rw [hg, ha, hb]; exact hall), hg, ha, hb] at R0 R1 R2
    obtain rfl : 0 = N := R0.out
    obtain rfl : [] = rs := R1.out
    have hv : gcode qg (qa && qb) = v := R2.out
    exact specBridge_err n A c es a b w hl hr v qg (qa && qb) hg hv0 (.inl ⟨hv, by rw [← hv]; exact gcode_no hall⟩)
end Go.Proofs.Ytblidpodbpoaeaa
