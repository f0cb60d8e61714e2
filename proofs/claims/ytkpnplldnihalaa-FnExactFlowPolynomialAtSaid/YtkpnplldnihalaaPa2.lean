/- FlowPolynomialAt: what it returns; the program's walk. -/
import Derived.Test.YtkpnplldnihalaaPa1
import Derived.Test.YtkpnplldnihalaaFp3
namespace Go.Proofs.Ytkpnplldnihalaa
open Go.RowKit Go.Shelf
set_option linter.unusedSimpArgs false
set_option linter.unusedVariables false
set_option maxRecDepth 100000
attribute [local go_sem] Oper.semAt_some

/-- One step of the sum. -/
def stepA (x acc : Int) (p : Int × Int) : Int := wrap64 (wrap64 (acc * x) + p.2)
/-- The value at x, by the numbers from the last one on. -/
def evalP (zs : List Int) (x : Int) : Int := (uptoB (backF zs) zs.length).foldl (stepA x) 0
/-- What FlowPolynomialAt returns. -/
def paOf (n : Int) (es : List (Int × Int)) (x : Int) : Int × Int :=
  if scode (isGraphB n es) (inB x (-10) 10) n 12 = 0 then (evalP (polyV n.toNat es) x, 0) else (0, scode (isGraphB n es) (inB x (-10) 10) n 12)

theorem scode_zero3 {qg qc : Bool} {n m : Int} (h : scode qg qc n m = 0) : qg = true ∧ qc = true ∧ n ≤ m := by
  unfold scode at h
  cases qg <;> cases qc <;> simp [gcode] at h ⊢
  omega

set_option maxHeartbeats 8000000 in
theorem implPa_b (n : Int) (A : Option Addr) (c : Nat) (es : List (Int × Int)) (x : Int) (w : World) (hl : es.length ≤ 1048576) (hr : RdE w A es) (r v : Int) (Hr : Hid ((paOf n es x).1 = r)) (Hv : Hid ((paOf n es x).2 = v)) :
    Calls Try.prog 26 #[.agg #[.int .i64 n, .slice A es.length c], .int .i64 x] w fun e w' => e = .returned (.tuple #[.int .i64 r, .int .i64 v]) ∧ Below w.heap.size w w' := by
  obtain ⟨qg, hg⟩ : ∃ q, Hid (isGraphB n es = q) := ⟨_, rfl⟩
  obtain ⟨qc, hc⟩ : ∃ q, Hid (inB x (-10) 10 = q) := ⟨_, rfl⟩
  obtain ⟨u, Hu⟩ : ∃ u, Hid (scode qg qc n 12 = u) := ⟨_, rfl⟩
  have cc := fun W => within_b x (-10) 10 W qc hc
  have cg := fun W (hW : Below w.heap.size w W) => expandedCode_b n A c es W qg qc u hg Hu hl (hr.below hW)
  by_cases h : u = 0
  · subst h
    obtain ⟨rfl, rfl, hn⟩ := scode_zero3 Hu.out
    obtain ⟨h1, h2⟩ := isGraphB_n hg.out
    have b2 := isGraphB_len hg.out
    have hin := isGraphB_in hg.out
    obtain ⟨N, rfl⟩ : ∃ m : Nat, n = m := ⟨n.toNat, by omega⟩
    rw [Int.toNat_natCast] at hin
    obtain ⟨P, HP⟩ : ∃ P, Hid (polyV N es = P) := ⟨_, rfl⟩
    have Hr2 : Hid (evalP P x = r) := by show _ = _; rw [← Hr.out, paOf, hg.out, hc.out, if_pos Hu.out, Int.toNat_natCast, HP.out]
    have Hv2 : Hid (0 = v) := by show _ = _; rw [← Hv.out, paOf, hg.out, hc.out, if_pos Hu.out]
    have hPl : Hid (P.length ≤ 1000) := by show _ ≤ _; rw [← HP.out]; have := polyV_len N es; omega
    have cp := fun (W : World) (hW : Below w.heap.size w W) => polynomial_b N A c es W P HP (by omega) (by omega) (by omega) hin (hr.below hW)
    clear hr hg hc Hr Hv Hu hin b2 HP
    generalize es.length = L at *
    refine (callsIn_wide (n := 6)).1 ?_
    refine callsIn_of_wp_marks Try.func26 rfl trivial ?_ rfl
    simp only [Try.ntmps26, List.size_toArray, List.length_cons, List.length_nil, Nat.reduceAdd, Nat.reduceSub, Array.replicate_succ, Array.replicate_zero, List.push_toArray, List.append_toArray, List.nil_append, List.cons_append]
    refine wpIn_wide.2 ?_
    go_wp2
    refine wp_region_noPanic ?_
    refine wp_region_held_drew (S := (fun w' => w'.cell? ⟨w.heap.size, 0, none⟩ = some (.int .i64 (N : Int)) ∧ w'.cell? ⟨w.heap.size, 1, none⟩ = some (.slice A L c) ∧ w'.cell? ⟨w.heap.size + 1, 0, none⟩ = some (.int .i64 x))) (by kernel_rfl) ?_ (fun hHeld => ?_)
    · (try dsimp only); (first | go_keep | (obtain ⟨hq, _⟩ := bcell ‹Below _ _ _›; (repeat' apply And.intro) <;> (rw [hq _ _ (by first | assumption | omega | (simp; done) | (simp; omega) | (simp; assumption))] <;> (first | assumption | (simp [*]; done)))))
    refine wpAnyH_take_d (i := 0) (d := some 10) (v := ?v1) rfl rfl (by kernel_rfl) (by kernel_rfl) (by kernel_rfl) (fun _ _ _ h => h) (Or.inl ⟨by kernel_rfl, ?y1⟩) (by assumption) ?_
    case y1 => (intro w' hSw; (try dsimp only at hSw); go_simp; try with_reducible rfl)
    try simp only [Act.put, List.setIfInBounds_toArray, List.set_cons_zero, List.set_cons_succ]
    refine wpAnyH_take_d (i := 1) (d := some 11) (v := ?v2) rfl rfl (by kernel_rfl) (by kernel_rfl) (by kernel_rfl) (fun _ _ _ h => h) (Or.inl ⟨by kernel_rfl, ?y2⟩) (by assumption) ?_
    case y2 => (intro w' hSw; (try dsimp only at hSw); go_simp; try with_reducible rfl)
    try simp only [Act.put, List.setIfInBounds_toArray, List.set_cons_zero, List.set_cons_succ]
    refine wpAnyH_ready (rs := [2]) (by kernel_rfl) (by simp) ?_
    refine AllReadyH.cons rfl (fun K hK => ?_) AllReadyH.nil
    go_simp
    refine (cc _).mono ?_; rintro e w1 ⟨rfl, rfl⟩
    refine hK.out _ _ ?s3 (fun hHeld3 => ?_)
    case s3 => ((try dsimp only); (first | go_keep | (obtain ⟨hq, _⟩ := bcell ‹Below _ _ _›; (repeat' apply And.intro) <;> (rw [hq _ _ (by first | assumption | omega | (simp; done) | (simp; omega) | (simp; assumption))] <;> (first | assumption | (simp [*]; done))))))
    clear hK K hHeld
    have hHeld := hHeld3; clear hHeld3
    try simp only [Act.put, List.setIfInBounds_toArray, List.set_cons_zero, List.set_cons_succ]
    refine wpAnyH_ready (rs := [3]) (by kernel_rfl) (by simp) ?_
    refine AllReadyH.cons rfl (fun K hK => ?_) AllReadyH.nil
    go_simp
    refine (cg _ (by (repeat' (first | (with_reducible exact Below.refl _ _) | (with_reducible assumption) | (with_reducible refine Below.alloc ?_ ?_ _) | (with_reducible refine Below.drew ?_) | (with_reducible refine below_drewN ?_ _) | (with_reducible refine Below.setCell ?_ ?_ _) | (with_reducible refine Below.trans ?_ (Below.mono (by assumption) ?_)) | (first | omega | (simp only [World.size_alloc, World.size_setCell, World.size_drew]; omega) | (simp; omega) | (simp; done)))))).mono ?_; rintro e w3 ⟨rfl, hb3⟩
    refine hK.out _ _ ?s4 (fun hHeld4 => ?_)
    case s4 => ((try dsimp only); (first | go_keep | (obtain ⟨hq, _⟩ := bcell ‹Below _ _ _›; (repeat' apply And.intro) <;> (rw [hq _ _ (by first | assumption | omega | (simp; done) | (simp; omega) | (simp; assumption))] <;> (first | assumption | (simp [*]; done))))))
    clear hK K hHeld
    have hHeld := hHeld4; clear hHeld4
    try simp only [Act.put, List.setIfInBounds_toArray, List.set_cons_zero, List.set_cons_succ]
    refine wpAnyH_take_d (i := 4) (d := some 6) (v := ?v5) rfl rfl (by kernel_rfl) (by kernel_rfl) (by kernel_rfl) (fun _ _ _ h => h) (Or.inl ⟨by kernel_rfl, ?y5⟩) (by assumption) ?_
    case y5 => (intro w' hSw; (try dsimp only at hSw); go_simp; try with_reducible rfl)
    try simp only [Act.put, List.setIfInBounds_toArray, List.set_cons_zero, List.set_cons_succ]
    refine wpAnyH_done (by kernel_rfl) ?_ _
    refine NoPanic.normal ?_
    obtain ⟨hA, hB, hX⟩ := hHeld
    have z3 := hb3.size
    have B3 : Below w.heap.size w w3 := by (repeat' (first | (with_reducible exact Below.refl _ _) | (with_reducible assumption) | (with_reducible refine Below.alloc ?_ ?_ _) | (with_reducible refine Below.drew ?_) | (with_reducible refine below_drewN ?_ _) | (with_reducible refine Below.setCell ?_ ?_ _) | (with_reducible refine Below.trans ?_ (Below.mono (by assumption) ?_)) | (first | omega | (simp only [World.size_alloc, World.size_setCell, World.size_drew]; omega) | (simp; omega) | (simp; done))))
    (try simp only [World.size_alloc, World.size_drew] at z3)
    have B4 : Below w.heap.size w (w3.alloc (.cells #[.int .i64 0] 2)) := B3.alloc B3.size _
    have c4 := cp _ B4
    have y3 : w.heap.size + 2 ≤ w3.heap.size := by omega
    have b34 : Below w3.heap.size w3 (w3.alloc (.cells #[.int .i64 0] 2)) := Below.alloc (Below.refl _ _) (Nat.le_refl _) _
    have hA4 := (b34.cell (p := ⟨w.heap.size, 0, none⟩) (by show _ < _; dsimp only; omega)).trans hA
    have hB4 := (b34.cell (p := ⟨w.heap.size, 1, none⟩) (by show _ < _; dsimp only; omega)).trans hB
    have hX4 := (b34.cell (p := ⟨w.heap.size + 1, 0, none⟩) (by show _ < _; dsimp only; omega)).trans hX
    have O4 : Blk (w3.alloc (.cells #[.int .i64 0] 2)) w3.heap.size 2 #[.int .i64 0] := Blk.new _ _ _
    clear hA hB hX
    go_wp2_with fail
    refine c4.mono ?_
    rintro e w4 ⟨rfl, hF, hb4⟩
    clear c4
    go_wp2_with fail
    refine (back_in _ _ _ _).mono ?_
    rintro e w5 ⟨rfl, rfl⟩
    go_wp2_with fail
    have zO := O4.lt
    have O5 := (O4.below hb4 zO).alloc (.cells #[.slice (some ⟨w3.heap.size + 1 + 1, 0, none⟩) P.length P.length] 36)
    have z4 := hb4.size
    (try simp only [World.size_alloc] at z4 zO)
    have B4' : Below w.heap.size w w4 := B4.trans (hb4.mono B4.size)
    have hF5 : FrI w4 (w3.heap.size + 1) (some ⟨w3.heap.size + 1 + 1, 0, none⟩) P := by
      first | exact hF | (simp only [World.size_alloc] at hF; exact hF)
    have x5 : (w4.alloc (.cells #[.slice (some ⟨w3.heap.size + 1 + 1, 0, none⟩) P.length P.length] 36)).cell? ⟨w.heap.size + 1, 0, none⟩ = some (.int .i64 x) :=
      ((Below.alloc (Below.refl w4.heap.size w4) (Nat.le_refl _) _).cell (p := ⟨w.heap.size + 1, 0, none⟩) (by show _ < _; dsimp only; omega)).trans ((hb4.cell (p := ⟨w.heap.size + 1, 0, none⟩) (by show _ < _; (try simp only [World.size_alloc]); (try dsimp only); omega)).trans hX4)
    have s5 := (Blk.new w4 36 #[.slice (some ⟨w3.heap.size + 1 + 1, 0, none⟩) P.length P.length]).cellAt 0 _ rfl
    have r5 := hF5.rd.below (Below.alloc (Below.refl w4.heap.size w4) (Nat.le_refl _) (.cells #[.slice (some ⟨w3.heap.size + 1 + 1, 0, none⟩) P.length P.length] 36))
    have B5 := B4'.alloc B4'.size (.cells #[.slice (some ⟨w3.heap.size + 1 + 1, 0, none⟩) P.length P.length] 36)
    have g4 : P ≠ [] → w3.heap.size + 1 + 1 < w4.heap.size := fun hne => by
      rcases hF5 with e | ⟨b, off, e, _, hb, _⟩
      · exact absurd e hne
      · injection e with e; injection e with e _ _; omega
    refine (wpIn_wide (n := 6)).1 ?_
    refine wpIn_rangeFunc_ownF rfl (by omega) (gf := 101) (lb := #[.pointer (some ⟨w4.heap.size, 0, none⟩)]) rfl trivial (enters_of Try.func101 (by kernel_rfl) rfl)
      (back_stops Fence.wide (6 - 1) trivial rfl (by omega) w4.heap.size (w4.heap.size + 1) w3.heap.size (some ⟨w3.heap.size + 1 + 1, 0, none⟩) P.length P (Nat.le_trans hPl.out (by decide)) (fun hp b o e => by have := g4 (by intro e9; rw [e9] at hp; simp at hp); injection e with e; injection e with e _ _; omega) (by omega) (by omega) _ (by simp) s5 r5) (fun h k => KeepB.trans h k) (KeepB.put (by simp)) (Below.refl _ _) (fun _ => rfl)
      (fun pre W => (W.cell? ⟨w3.heap.size, 0, none⟩ = some (.int .i64 (pre.foldl (stepA x) 0)) ∧ W.frozen? ⟨w3.heap.size, 0, none⟩ = false ∧ W.cell? ⟨w.heap.size + 1, 0, none⟩ = some (.int .i64 x)) ∧ Below w.heap.size w W)
      (fun _ _ _ => False)
      (OwnFrom.and (Own.from (fun s A B row hs hg hr => ⟨cell_kept hs.1 hg hr, (frozen_kept hs.1 hg hr).trans hs.2.1, cell_kept hs.2.2 hg hr⟩) _) (ownFrom_below (Nat.le_refl _) (by simp; omega)))
      (fun _ _ _ _ _ hs _ _ => hs)
      ⟨⟨O5.cellAt 0 _ rfl, O5.frozen 0, x5⟩, B5⟩
      (fun y => { tmps := #[.agg #[.int .i64 (N : Int), .slice A L c], .int .i64 x, .pointer (some ⟨w.heap.size, 0, none⟩), .pointer (some ⟨w.heap.size + 1, 0, none⟩), .int .i64 0, .int .i64 0, .int .i64 0, .pointer (some ⟨w3.heap.size, 0, none⟩), undef, .int .i64 y.2,
          .agg #[.int .i64 (N : Int), .slice A L c], .int .i64 x, .bool true, .int .i64 0, .int .i64 0, .bool false, undef, .agg #[.int .i64 (N : Int), .slice A L c], .slice (some ⟨w3.heap.size + 1 + 1, 0, none⟩) P.length P.length, .func (.func 101) #[] #[.pointer (some ⟨w4.heap.size, 0, none⟩)], .int .i64 y.1, .int .i64 y.2, undef, undef, undef, undef, undef, undef], defers := [] }) ?assign ?body ?done ?stop
    case assign =>
      intro l y W K hK
      gi_wp2
      exact hK
    case body =>
      rintro l pre y W ⟨⟨hc, hf, hxc⟩, hB⟩ _
      gi_wp2
      refine ⟨KeepsOthers.setCell _ _ _, KeepB.set _ _ _, ⟨⟨?_, ?_, ?_⟩, hB.setCell (by show _ ≤ w3.heap.size; omega) _⟩⟩
      · rw [List.foldl_append]; exact sc_same hc
      · rw [sc_frozen]; exact hf
      · exact (sc_other (addr_ne (.inl (by omega)))).trans hxc
    case done =>
      rintro D ys W hD rfl ⟨⟨hc, hf, hxc⟩, hB⟩ hK
      have hE : Hid ((uptoB (backF P) P.length).foldl (stepA x) 0 = r) := Hr2.out
      rw [hE.out] at hc
      (try simp only [World.size_alloc] at hD)
      have hB9 : Hid (Below w.heap.size w (W.putObj D (.deferred none))) := hB.trans (belowK_b (w := w) (Nat.le_refl _) W D _ _ (by omega) hK rfl rfl)
      have HK := Lib.hid hK
      clear hK hB hf hxc
      go_wp2
      refine ⟨by simp, .inl ⟨_, _, rfl, run_takeDeferred HK.out, ?_⟩⟩
      refine ⟨.tuple #[.int .i64 r, .int .i64 0], ?_, ?_, hB9.out⟩
      · exact (results_tmp2 (fn := Try.f26) rfl _ _ _).trans rfl
      · rw [← Hv2.out]
    case stop =>
      rintro D c pre W _ _ h _
      exact h.elim
  · have Hr2 : Hid (0 = r) := by show _ = _; rw [← Hr.out, paOf, hg.out, hc.out, if_neg (by rw [Hu.out]; exact h)]
    have Hv2 : Hid (u = v) := by show _ = _; rw [← Hv.out, paOf, hg.out, hc.out, if_neg (by rw [Hu.out]; exact h), Hu.out]
    have g1 : (u != 0) = true := by simpa using h
    have g2 : (u == 0) = false := by simpa using h
    clear Hr Hv hr hg hc Hu
    generalize es.length = L at *
    go_enter Try.func26, Try.ntmps26
    go_wp2
    refine wp_region_noPanic ?_
    refine wp_region_held_drew (S := (fun w' => w'.cell? ⟨w.heap.size, 0, none⟩ = some (.int .i64 n) ∧ w'.cell? ⟨w.heap.size, 1, none⟩ = some (.slice A L c) ∧ w'.cell? ⟨w.heap.size + 1, 0, none⟩ = some (.int .i64 x))) (by kernel_rfl) ?_ (fun hHeld => ?_)
    · (try dsimp only); (first | go_keep | (obtain ⟨hq, _⟩ := bcell ‹Below _ _ _›; (repeat' apply And.intro) <;> (rw [hq _ _ (by first | assumption | omega | (simp; done) | (simp; omega) | (simp; assumption))] <;> (first | assumption | (simp [*]; done)))))
    refine wpAnyH_take_d (i := 0) (d := some 10) (v := ?v6) rfl rfl (by kernel_rfl) (by kernel_rfl) (by kernel_rfl) (fun _ _ _ h => h) (Or.inl ⟨by kernel_rfl, ?y6⟩) (by assumption) ?_
    case y6 => (intro w' hSw; (try dsimp only at hSw); go_simp; try with_reducible rfl)
    try simp only [Act.put, List.setIfInBounds_toArray, List.set_cons_zero, List.set_cons_succ]
    refine wpAnyH_take_d (i := 1) (d := some 11) (v := ?v7) rfl rfl (by kernel_rfl) (by kernel_rfl) (by kernel_rfl) (fun _ _ _ h => h) (Or.inl ⟨by kernel_rfl, ?y7⟩) (by assumption) ?_
    case y7 => (intro w' hSw; (try dsimp only at hSw); go_simp; try with_reducible rfl)
    try simp only [Act.put, List.setIfInBounds_toArray, List.set_cons_zero, List.set_cons_succ]
    refine wpAnyH_ready (rs := [2]) (by kernel_rfl) (by simp) ?_
    refine AllReadyH.cons rfl (fun K hK => ?_) AllReadyH.nil
    go_simp
    refine (cc _).mono ?_; rintro e w1 ⟨rfl, rfl⟩
    refine hK.out _ _ ?s8 (fun hHeld8 => ?_)
    case s8 => ((try dsimp only); (first | go_keep | (obtain ⟨hq, _⟩ := bcell ‹Below _ _ _›; (repeat' apply And.intro) <;> (rw [hq _ _ (by first | assumption | omega | (simp; done) | (simp; omega) | (simp; assumption))] <;> (first | assumption | (simp [*]; done))))))
    clear hK K hHeld
    have hHeld := hHeld8; clear hHeld8
    try simp only [Act.put, List.setIfInBounds_toArray, List.set_cons_zero, List.set_cons_succ]
    refine wpAnyH_ready (rs := [3]) (by kernel_rfl) (by simp) ?_
    refine AllReadyH.cons rfl (fun K hK => ?_) AllReadyH.nil
    go_simp
    refine (cg _ (by (repeat' (first | (with_reducible exact Below.refl _ _) | (with_reducible assumption) | (with_reducible refine Below.alloc ?_ ?_ _) | (with_reducible refine Below.drew ?_) | (with_reducible refine below_drewN ?_ _) | (with_reducible refine Below.setCell ?_ ?_ _) | (with_reducible refine Below.trans ?_ (Below.mono (by assumption) ?_)) | (first | omega | (simp only [World.size_alloc, World.size_setCell, World.size_drew]; omega) | (simp; omega) | (simp; done)))))).mono ?_; rintro e w3 ⟨rfl, hb3⟩
    refine hK.out _ _ ?s9 (fun hHeld9 => ?_)
    case s9 => ((try dsimp only); (first | go_keep | (obtain ⟨hq, _⟩ := bcell ‹Below _ _ _›; (repeat' apply And.intro) <;> (rw [hq _ _ (by first | assumption | omega | (simp; done) | (simp; omega) | (simp; assumption))] <;> (first | assumption | (simp [*]; done))))))
    clear hK K hHeld
    have hHeld := hHeld9; clear hHeld9
    try simp only [Act.put, List.setIfInBounds_toArray, List.set_cons_zero, List.set_cons_succ]
    refine wpAnyH_take_d (i := 4) (d := some 6) (v := ?v10) rfl rfl (by kernel_rfl) (by kernel_rfl) (by kernel_rfl) (fun _ _ _ h => h) (Or.inl ⟨by kernel_rfl, ?y10⟩) (by assumption) ?_
    case y10 => (intro w' hSw; (try dsimp only at hSw); go_simp; try with_reducible rfl)
    try simp only [Act.put, List.setIfInBounds_toArray, List.set_cons_zero, List.set_cons_succ]
    refine wpAnyH_done (by kernel_rfl) ?_ _
    refine NoPanic.normal ?_
    go_wp2
    go_ret2
    exact ⟨by rw [← Hr2.out, ← Hv2.out]; rfl, by (repeat' (first | (with_reducible exact Below.refl _ _) | (with_reducible assumption) | (with_reducible refine Below.alloc ?_ ?_ _) | (with_reducible refine Below.drew ?_) | (with_reducible refine below_drewN ?_ _) | (with_reducible refine Below.setCell ?_ ?_ _) | (with_reducible refine Below.trans ?_ (Below.mono (by assumption) ?_)) | (first | omega | (simp only [World.size_alloc, World.size_setCell, World.size_drew]; omega) | (simp; omega) | (simp; done))))⟩
end Go.Proofs.Ytkpnplldnihalaa
