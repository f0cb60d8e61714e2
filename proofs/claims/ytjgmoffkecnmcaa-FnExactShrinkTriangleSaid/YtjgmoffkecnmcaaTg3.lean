/- impl.ShrinkTriangle: the errors. No statement of the program is proved here. -/
import Derived.Test.YtjgmoffkecnmcaaTg2
import Derived.Test.YtjgmoffkecnmcaaGo1
import Derived.Test.YtjgmoffkecnmcaaCd
import Derived.Test.YtjgmoffkecnmcaaBr2
namespace Go.Proofs.Ytjgmoffkecnmcaa
open Go.RowKit
set_option linter.unusedSimpArgs false
set_option linter.unusedVariables false
set_option maxRecDepth 20000

set_option maxHeartbeats 4000000 in
/-- The code of the graph and the vertices. -/
theorem implTri_code (n : Int) (A : Option Addr) (c : Nat) (es : List (Int × Int)) (a b d : Int) (w : World) (hl : es.length ≤ 1048576) (hr : RdE w A es) (qg qa qb qc : Bool) (hq : Hid (isGraphB n es = qg)) (ha : Hid (inB a 0 (wrap64 (n - 1)) = qa)) (hb : Hid (inB b 0 (wrap64 (n - 1)) = qb)) (hd : Hid (inB d 0 (wrap64 (n - 1)) = qc)) (r : Int) (hc : gcode qg (qa && (qb && qc)) = r) (hr0 : r ≠ 0) :
    Calls Try.prog 13 #[.agg #[.int .i64 n, .slice A es.length c], .int .i64 a, .int .i64 b, .int .i64 d] w fun e w' => RetG w' w.heap.size e 0 [] r ∧ Below w.heap.size w w' := by
  have ca := fun W => isVertex_b n A es.length c a W qa ha
  have cb := fun W => isVertex_b n A es.length c b W qb hb
  have cc := fun W => isVertex_b n A es.length c d W qc hd
  have cg := fun W q (hW : Below w.heap.size w W) => graphCode_b n A c es W qg q hq hl (hr.below hW)
  have g1 : (r != 0) = true := by simpa using hr0
  clear hr hq ha hb hd hr0
  generalize es.length = L at *
  cases qa
  · have cg := fun W (hW : Below w.heap.size w W) => cg W false hW
    rw [show gcode qg false = r from hc] at cg
    clear hc
    go_enter Try.func13, Try.ntmps13
    go_wp2
    refine wp_region_noPanic ?_
    refine wp_region_held_drew (S := (fun w' => w'.cell? ⟨w.heap.size, 0, none⟩ = some (.int .i64 n) ∧ w'.cell? ⟨w.heap.size, 1, none⟩ = some (.slice A L c))) (by kernel_rfl) ?_ (fun hHeld => ?_)
    · (try dsimp only); (first | go_keep | (obtain ⟨hq, _⟩ := bcell ‹Below _ _ _›; (repeat' apply And.intro) <;> (rw [hq _ _ (by first | assumption | omega | (simp; done) | (simp; omega) | (simp; assumption))] <;> (first | assumption | (simp [*]; done)))))
    refine wpAnyH_take_d (i := 0) (d := some 17) (v := ?v1) rfl rfl (by kernel_rfl) (by kernel_rfl) (by kernel_rfl) (fun _ _ _ h => h) (Or.inl ⟨by kernel_rfl, ?y1⟩) (by assumption) ?_
    case y1 => (intro w' hSw; (try dsimp only at hSw); go_simp; try with_reducible rfl)
    try simp only [Act.put, List.setIfInBounds_toArray, List.set_cons_zero, List.set_cons_succ]
    refine wpAnyH_take_d (i := 1) (d := some 18) (v := ?v2) rfl rfl (by kernel_rfl) (by kernel_rfl) (by kernel_rfl) (fun _ _ _ h => h) (Or.inl ⟨by kernel_rfl, ?y2⟩) (by assumption) ?_
    case y2 => (intro w' hSw; (try dsimp only at hSw); go_simp; try with_reducible rfl)
    try simp only [Act.put, List.setIfInBounds_toArray, List.set_cons_zero, List.set_cons_succ]
    refine wpAnyH_take_d (i := 2) (d := some 19) (v := ?v3) rfl rfl (by kernel_rfl) (by kernel_rfl) (by kernel_rfl) (fun _ _ _ h => h) (Or.inl ⟨by kernel_rfl, ?y3⟩) (by assumption) ?_
    case y3 => (intro w' hSw; (try dsimp only at hSw); go_simp; try with_reducible rfl)
    try simp only [Act.put, List.setIfInBounds_toArray, List.set_cons_zero, List.set_cons_succ]
    refine wpAnyH_ready (rs := [3]) (by kernel_rfl) (by simp) ?_
    refine AllReadyH.cons rfl (fun K hK => ?_) AllReadyH.nil
    go_simp
    refine (ca _).mono ?_; rintro e w1 ⟨rfl, hb1⟩; have z1 := hb1.size; (try simp only [World.size_alloc, World.size_setCell, World.size_drew] at z1)
    refine hK.out _ _ ?s4 (fun hHeld4 => ?_)
    case s4 => ((try dsimp only); (first | go_keep | (obtain ⟨hq, _⟩ := bcell ‹Below _ _ _›; (repeat' apply And.intro) <;> (rw [hq _ _ (by first | assumption | omega | (simp; done) | (simp; omega) | (simp; assumption))] <;> (first | assumption | (simp [*]; done))))))
    clear hK K hHeld
    have hHeld := hHeld4; clear hHeld4
    try simp only [Act.put, List.setIfInBounds_toArray, List.set_cons_zero, List.set_cons_succ]
    refine wpAnyH_take_d (i := 4) (d := some 21) (v := ?v5) rfl rfl (by kernel_rfl) (by kernel_rfl) (by kernel_rfl) (fun _ _ _ h => h) (Or.inl ⟨by kernel_rfl, ?y5⟩) (by assumption) ?_
    case y5 => (intro w' hSw; (try dsimp only at hSw); go_simp; try with_reducible rfl)
    try simp only [Act.put, List.setIfInBounds_toArray, List.set_cons_zero, List.set_cons_succ]
    refine wpAnyH_take_d (i := 5) (d := some 22) (v := undef) rfl rfl (by kernel_rfl) (by kernel_rfl) (by kernel_rfl) (fun _ _ _ h => h) (Or.inr ⟨by kernel_rfl, rfl⟩) (by assumption) ?_
    try simp only [Act.put, List.setIfInBounds_toArray, List.set_cons_zero, List.set_cons_succ]
    refine wpAnyH_take_d (i := 6) (d := some 23) (v := undef) rfl rfl (by kernel_rfl) (by kernel_rfl) (by kernel_rfl) (fun _ _ _ h => h) (Or.inr ⟨by kernel_rfl, rfl⟩) (by assumption) ?_
    try simp only [Act.put, List.setIfInBounds_toArray, List.set_cons_zero, List.set_cons_succ]
    refine wpAnyH_take_d (i := 7) (d := some 24) (v := undef) rfl rfl (by kernel_rfl) (by kernel_rfl) (by kernel_rfl) (fun _ _ _ h => h) (Or.inr ⟨by kernel_rfl, rfl⟩) (by assumption) ?_
    try simp only [Act.put, List.setIfInBounds_toArray, List.set_cons_zero, List.set_cons_succ]
    refine wpAnyH_take_d (i := 8) (d := some 25) (v := ?v9) rfl rfl (by kernel_rfl) (by kernel_rfl) (by kernel_rfl) (fun _ _ _ h => h) (Or.inl ⟨by kernel_rfl, ?y9⟩) (by assumption) ?_
    case y9 => (intro w' hSw; (try dsimp only at hSw); go_simp; try with_reducible rfl)
    try simp only [Act.put, List.setIfInBounds_toArray, List.set_cons_zero, List.set_cons_succ]
    refine wpAnyH_take_d (i := 9) (d := some 26) (v := ?v10) rfl rfl (by kernel_rfl) (by kernel_rfl) (by kernel_rfl) (fun _ _ _ h => h) (Or.inl ⟨by kernel_rfl, ?y10⟩) (by assumption) ?_
    case y10 => (intro w' hSw; (try dsimp only at hSw); go_simp; try with_reducible rfl)
    try simp only [Act.put, List.setIfInBounds_toArray, List.set_cons_zero, List.set_cons_succ]
    refine wpAnyH_take_d (i := 10) (d := some 27) (v := undef) rfl rfl (by kernel_rfl) (by kernel_rfl) (by kernel_rfl) (fun _ _ _ h => h) (Or.inr ⟨by kernel_rfl, rfl⟩) (by assumption) ?_
    try simp only [Act.put, List.setIfInBounds_toArray, List.set_cons_zero, List.set_cons_succ]
    refine wpAnyH_take_d (i := 11) (d := some 28) (v := undef) rfl rfl (by kernel_rfl) (by kernel_rfl) (by kernel_rfl) (fun _ _ _ h => h) (Or.inr ⟨by kernel_rfl, rfl⟩) (by assumption) ?_
    try simp only [Act.put, List.setIfInBounds_toArray, List.set_cons_zero, List.set_cons_succ]
    refine wpAnyH_take_d (i := 12) (d := some 29) (v := undef) rfl rfl (by kernel_rfl) (by kernel_rfl) (by kernel_rfl) (fun _ _ _ h => h) (Or.inr ⟨by kernel_rfl, rfl⟩) (by assumption) ?_
    try simp only [Act.put, List.setIfInBounds_toArray, List.set_cons_zero, List.set_cons_succ]
    refine wpAnyH_take_d (i := 13) (d := some 30) (v := ?v14) rfl rfl (by kernel_rfl) (by kernel_rfl) (by kernel_rfl) (fun _ _ _ h => h) (Or.inl ⟨by kernel_rfl, ?y14⟩) (by assumption) ?_
    case y14 => (intro w' hSw; (try dsimp only at hSw); go_simp; try with_reducible rfl)
    try simp only [Act.put, List.setIfInBounds_toArray, List.set_cons_zero, List.set_cons_succ]
    refine wpAnyH_ready (rs := [14]) (by kernel_rfl) (by simp) ?_
    refine AllReadyH.cons rfl (fun K hK => ?_) AllReadyH.nil
    go_simp
    refine (cg _ (by (repeat' (first | (with_reducible exact Below.refl _ _) | (with_reducible assumption) | (with_reducible refine Below.alloc ?_ ?_ _) | (with_reducible refine Below.drew ?_) | (with_reducible refine below_drewN ?_ _) | (with_reducible refine Below.setCell ?_ ?_ _) | (with_reducible refine Below.trans ?_ (Below.mono (by assumption) ?_)) | (first | omega | (simp only [World.size_alloc, World.size_setCell, World.size_drew]; omega) | (simp; omega) | (simp; done)))))).mono ?_; rintro e w4 ⟨rfl, hb4⟩; have z4 := hb4.size; (try simp only [World.size_alloc, World.size_setCell, World.size_drew] at z4)
    refine hK.out _ _ ?s15 (fun hHeld15 => ?_)
    case s15 => ((try dsimp only); (first | go_keep | (obtain ⟨hq, _⟩ := bcell ‹Below _ _ _›; (repeat' apply And.intro) <;> (rw [hq _ _ (by first | assumption | omega | (simp; done) | (simp; omega) | (simp; assumption))] <;> (first | assumption | (simp [*]; done))))))
    clear hK K hHeld
    have hHeld := hHeld15; clear hHeld15
    try simp only [Act.put, List.setIfInBounds_toArray, List.set_cons_zero, List.set_cons_succ]
    refine wpAnyH_take_d (i := 15) (d := some 10) (v := ?v16) rfl rfl (by kernel_rfl) (by kernel_rfl) (by kernel_rfl) (fun _ _ _ h => h) (Or.inl ⟨by kernel_rfl, ?y16⟩) (by assumption) ?_
    case y16 => (intro w' hSw; (try dsimp only at hSw); go_simp; try with_reducible rfl)
    try simp only [Act.put, List.setIfInBounds_toArray, List.set_cons_zero, List.set_cons_succ]
    refine wpAnyH_done (by kernel_rfl) ?_ _
    refine NoPanic.normal ?_
    clear hHeld
    have b4 : Below ((w.alloc (.cells #[.int .i64 n, .slice A L c] 28)).alloc (.cells #[.int .i64 0, .slice none 0 0] 28)).heap.size ((w.alloc (.cells #[.int .i64 n, .slice A L c] 28)).alloc (.cells #[.int .i64 0, .slice none 0 0] 28)) w4 := by (repeat' (first | (with_reducible exact Below.refl _ _) | (with_reducible assumption) | (with_reducible refine Below.alloc ?_ ?_ _) | (with_reducible refine Below.drew ?_) | (with_reducible refine below_drewN ?_ _) | (with_reducible refine Below.setCell ?_ ?_ _) | (with_reducible refine Below.trans ?_ (Below.mono (by assumption) ?_)) | (first | omega | (simp only [World.size_alloc, World.size_setCell, World.size_drew]; omega) | (simp; omega) | (simp; done))))
    have HZ4 := Lib.hid ((Blk.new' (n := w.heap.size + 1) _ (by simp)).below b4 (by simp) : Blk w4 (w.heap.size + 1) 28 #[.int .i64 0, .slice none 0 0])
    have HG4 := Lib.hid (((Blk.new w _ _).alloc _).below b4 (by simp <;> omega) : Blk w4 w.heap.size 28 #[.int .i64 n, .slice A L c])
    have Hb4 : Hid (Below w.heap.size w w4) := by show Below _ _ _; exact Below.trans (b := ((w.alloc (.cells #[.int .i64 n, .slice A L c] 28)).alloc (.cells #[.int .i64 0, .slice none 0 0] 28))) (by (repeat' (first | (with_reducible exact Below.refl _ _) | (with_reducible assumption) | (with_reducible refine Below.alloc ?_ ?_ _) | (with_reducible refine Below.drew ?_) | (with_reducible refine below_drewN ?_ _) | (with_reducible refine Below.setCell ?_ ?_ _) | (with_reducible refine Below.trans ?_ (Below.mono (by assumption) ?_)) | (first | omega | (simp only [World.size_alloc, World.size_setCell, World.size_drew]; omega) | (simp; omega) | (simp; done))))) (b4.mono (by simp; omega))
    clear b4
    have x0 := HZ4.out.cellAt 0 _ rfl
    have x1 : (w4.setCell ⟨w.heap.size + 1, 0, none⟩ (.int .i64 0)).cell? ⟨w.heap.size + 1, 1, none⟩ = some (.slice none 0 0) := (sc_other (by simp)).trans (HZ4.out.cellAt 1 _ rfl)
    have f0 := HZ4.out.frozen 0
    have f1 := HZ4.out.frozen 1
    go_wp2
    refine ret_cell_tmp Try.results13 Try.underlying28 rfl (by kernel_rfl) rfl ((HZ4.out.set_ 0 (.int .i64 0)).set_ 1 (.slice none 0 0)) rfl rfl ⟨⟨none, 0, rfl, FrE.nil⟩, (Hb4.out.setCell (by show w.heap.size ≤ w.heap.size + 1; omega) _).setCell (by show w.heap.size ≤ w.heap.size + 1; omega) _⟩

  · cases qb
    · have cg := fun W (hW : Below w.heap.size w W) => cg W false hW
      rw [show gcode qg false = r from hc] at cg
      clear hc
      go_enter Try.func13, Try.ntmps13
      go_wp2
      refine wp_region_noPanic ?_
      refine wp_region_held_drew (S := (fun w' => w'.cell? ⟨w.heap.size, 0, none⟩ = some (.int .i64 n) ∧ w'.cell? ⟨w.heap.size, 1, none⟩ = some (.slice A L c))) (by kernel_rfl) ?_ (fun hHeld => ?_)
      · (try dsimp only); (first | go_keep | (obtain ⟨hq, _⟩ := bcell ‹Below _ _ _›; (repeat' apply And.intro) <;> (rw [hq _ _ (by first | assumption | omega | (simp; done) | (simp; omega) | (simp; assumption))] <;> (first | assumption | (simp [*]; done)))))
      refine wpAnyH_take_d (i := 0) (d := some 17) (v := ?v17) rfl rfl (by kernel_rfl) (by kernel_rfl) (by kernel_rfl) (fun _ _ _ h => h) (Or.inl ⟨by kernel_rfl, ?y17⟩) (by assumption) ?_
      case y17 => (intro w' hSw; (try dsimp only at hSw); go_simp; try with_reducible rfl)
      try simp only [Act.put, List.setIfInBounds_toArray, List.set_cons_zero, List.set_cons_succ]
      refine wpAnyH_take_d (i := 1) (d := some 18) (v := ?v18) rfl rfl (by kernel_rfl) (by kernel_rfl) (by kernel_rfl) (fun _ _ _ h => h) (Or.inl ⟨by kernel_rfl, ?y18⟩) (by assumption) ?_
      case y18 => (intro w' hSw; (try dsimp only at hSw); go_simp; try with_reducible rfl)
      try simp only [Act.put, List.setIfInBounds_toArray, List.set_cons_zero, List.set_cons_succ]
      refine wpAnyH_take_d (i := 2) (d := some 19) (v := ?v19) rfl rfl (by kernel_rfl) (by kernel_rfl) (by kernel_rfl) (fun _ _ _ h => h) (Or.inl ⟨by kernel_rfl, ?y19⟩) (by assumption) ?_
      case y19 => (intro w' hSw; (try dsimp only at hSw); go_simp; try with_reducible rfl)
      try simp only [Act.put, List.setIfInBounds_toArray, List.set_cons_zero, List.set_cons_succ]
      refine wpAnyH_ready (rs := [3]) (by kernel_rfl) (by simp) ?_
      refine AllReadyH.cons rfl (fun K hK => ?_) AllReadyH.nil
      go_simp
      refine (ca _).mono ?_; rintro e w1 ⟨rfl, hb1⟩; have z1 := hb1.size; (try simp only [World.size_alloc, World.size_setCell, World.size_drew] at z1)
      refine hK.out _ _ ?s20 (fun hHeld20 => ?_)
      case s20 => ((try dsimp only); (first | go_keep | (obtain ⟨hq, _⟩ := bcell ‹Below _ _ _›; (repeat' apply And.intro) <;> (rw [hq _ _ (by first | assumption | omega | (simp; done) | (simp; omega) | (simp; assumption))] <;> (first | assumption | (simp [*]; done))))))
      clear hK K hHeld
      have hHeld := hHeld20; clear hHeld20
      try simp only [Act.put, List.setIfInBounds_toArray, List.set_cons_zero, List.set_cons_succ]
      refine wpAnyH_take_d (i := 4) (d := some 21) (v := ?v21) rfl rfl (by kernel_rfl) (by kernel_rfl) (by kernel_rfl) (fun _ _ _ h => h) (Or.inl ⟨by kernel_rfl, ?y21⟩) (by assumption) ?_
      case y21 => (intro w' hSw; (try dsimp only at hSw); go_simp; try with_reducible rfl)
      try simp only [Act.put, List.setIfInBounds_toArray, List.set_cons_zero, List.set_cons_succ]
      refine wpAnyH_take_d (i := 5) (d := some 22) (v := ?v22) rfl rfl (by kernel_rfl) (by kernel_rfl) (by kernel_rfl) (fun _ _ _ h => h) (Or.inl ⟨by kernel_rfl, ?y22⟩) (by assumption) ?_
      case y22 => (intro w' hSw; (try dsimp only at hSw); go_simp; try with_reducible rfl)
      try simp only [Act.put, List.setIfInBounds_toArray, List.set_cons_zero, List.set_cons_succ]
      refine wpAnyH_take_d (i := 6) (d := some 23) (v := ?v23) rfl rfl (by kernel_rfl) (by kernel_rfl) (by kernel_rfl) (fun _ _ _ h => h) (Or.inl ⟨by kernel_rfl, ?y23⟩) (by assumption) ?_
      case y23 => (intro w' hSw; (try dsimp only at hSw); go_simp; try with_reducible rfl)
      try simp only [Act.put, List.setIfInBounds_toArray, List.set_cons_zero, List.set_cons_succ]
      refine wpAnyH_ready (rs := [7]) (by kernel_rfl) (by simp) ?_
      refine AllReadyH.cons rfl (fun K hK => ?_) AllReadyH.nil
      go_simp
      refine (cb _).mono ?_; rintro e w2 ⟨rfl, hb2⟩; have z2 := hb2.size; (try simp only [World.size_alloc, World.size_setCell, World.size_drew] at z2)
      refine hK.out _ _ ?s24 (fun hHeld24 => ?_)
      case s24 => ((try dsimp only); (first | go_keep | (obtain ⟨hq, _⟩ := bcell ‹Below _ _ _›; (repeat' apply And.intro) <;> (rw [hq _ _ (by first | assumption | omega | (simp; done) | (simp; omega) | (simp; assumption))] <;> (first | assumption | (simp [*]; done))))))
      clear hK K hHeld
      have hHeld := hHeld24; clear hHeld24
      try simp only [Act.put, List.setIfInBounds_toArray, List.set_cons_zero, List.set_cons_succ]
      refine wpAnyH_take_d (i := 8) (d := some 25) (v := ?v25) rfl rfl (by kernel_rfl) (by kernel_rfl) (by kernel_rfl) (fun _ _ _ h => h) (Or.inl ⟨by kernel_rfl, ?y25⟩) (by assumption) ?_
      case y25 => (intro w' hSw; (try dsimp only at hSw); go_simp; try with_reducible rfl)
      try simp only [Act.put, List.setIfInBounds_toArray, List.set_cons_zero, List.set_cons_succ]
      refine wpAnyH_take_d (i := 9) (d := some 26) (v := ?v26) rfl rfl (by kernel_rfl) (by kernel_rfl) (by kernel_rfl) (fun _ _ _ h => h) (Or.inl ⟨by kernel_rfl, ?y26⟩) (by assumption) ?_
      case y26 => (intro w' hSw; (try dsimp only at hSw); go_simp; try with_reducible rfl)
      try simp only [Act.put, List.setIfInBounds_toArray, List.set_cons_zero, List.set_cons_succ]
      refine wpAnyH_take_d (i := 10) (d := some 27) (v := undef) rfl rfl (by kernel_rfl) (by kernel_rfl) (by kernel_rfl) (fun _ _ _ h => h) (Or.inr ⟨by kernel_rfl, rfl⟩) (by assumption) ?_
      try simp only [Act.put, List.setIfInBounds_toArray, List.set_cons_zero, List.set_cons_succ]
      refine wpAnyH_take_d (i := 11) (d := some 28) (v := undef) rfl rfl (by kernel_rfl) (by kernel_rfl) (by kernel_rfl) (fun _ _ _ h => h) (Or.inr ⟨by kernel_rfl, rfl⟩) (by assumption) ?_
      try simp only [Act.put, List.setIfInBounds_toArray, List.set_cons_zero, List.set_cons_succ]
      refine wpAnyH_take_d (i := 12) (d := some 29) (v := undef) rfl rfl (by kernel_rfl) (by kernel_rfl) (by kernel_rfl) (fun _ _ _ h => h) (Or.inr ⟨by kernel_rfl, rfl⟩) (by assumption) ?_
      try simp only [Act.put, List.setIfInBounds_toArray, List.set_cons_zero, List.set_cons_succ]
      refine wpAnyH_take_d (i := 13) (d := some 30) (v := ?v30) rfl rfl (by kernel_rfl) (by kernel_rfl) (by kernel_rfl) (fun _ _ _ h => h) (Or.inl ⟨by kernel_rfl, ?y30⟩) (by assumption) ?_
      case y30 => (intro w' hSw; (try dsimp only at hSw); go_simp; try with_reducible rfl)
      try simp only [Act.put, List.setIfInBounds_toArray, List.set_cons_zero, List.set_cons_succ]
      refine wpAnyH_ready (rs := [14]) (by kernel_rfl) (by simp) ?_
      refine AllReadyH.cons rfl (fun K hK => ?_) AllReadyH.nil
      go_simp
      refine (cg _ (by (repeat' (first | (with_reducible exact Below.refl _ _) | (with_reducible assumption) | (with_reducible refine Below.alloc ?_ ?_ _) | (with_reducible refine Below.drew ?_) | (with_reducible refine below_drewN ?_ _) | (with_reducible refine Below.setCell ?_ ?_ _) | (with_reducible refine Below.trans ?_ (Below.mono (by assumption) ?_)) | (first | omega | (simp only [World.size_alloc, World.size_setCell, World.size_drew]; omega) | (simp; omega) | (simp; done)))))).mono ?_; rintro e w4 ⟨rfl, hb4⟩; have z4 := hb4.size; (try simp only [World.size_alloc, World.size_setCell, World.size_drew] at z4)
      refine hK.out _ _ ?s31 (fun hHeld31 => ?_)
      case s31 => ((try dsimp only); (first | go_keep | (obtain ⟨hq, _⟩ := bcell ‹Below _ _ _›; (repeat' apply And.intro) <;> (rw [hq _ _ (by first | assumption | omega | (simp; done) | (simp; omega) | (simp; assumption))] <;> (first | assumption | (simp [*]; done))))))
      clear hK K hHeld
      have hHeld := hHeld31; clear hHeld31
      try simp only [Act.put, List.setIfInBounds_toArray, List.set_cons_zero, List.set_cons_succ]
      refine wpAnyH_take_d (i := 15) (d := some 10) (v := ?v32) rfl rfl (by kernel_rfl) (by kernel_rfl) (by kernel_rfl) (fun _ _ _ h => h) (Or.inl ⟨by kernel_rfl, ?y32⟩) (by assumption) ?_
      case y32 => (intro w' hSw; (try dsimp only at hSw); go_simp; try with_reducible rfl)
      try simp only [Act.put, List.setIfInBounds_toArray, List.set_cons_zero, List.set_cons_succ]
      refine wpAnyH_done (by kernel_rfl) ?_ _
      refine NoPanic.normal ?_
      clear hHeld
      have b4 : Below ((w.alloc (.cells #[.int .i64 n, .slice A L c] 28)).alloc (.cells #[.int .i64 0, .slice none 0 0] 28)).heap.size ((w.alloc (.cells #[.int .i64 n, .slice A L c] 28)).alloc (.cells #[.int .i64 0, .slice none 0 0] 28)) w4 := by (repeat' (first | (with_reducible exact Below.refl _ _) | (with_reducible assumption) | (with_reducible refine Below.alloc ?_ ?_ _) | (with_reducible refine Below.drew ?_) | (with_reducible refine below_drewN ?_ _) | (with_reducible refine Below.setCell ?_ ?_ _) | (with_reducible refine Below.trans ?_ (Below.mono (by assumption) ?_)) | (first | omega | (simp only [World.size_alloc, World.size_setCell, World.size_drew]; omega) | (simp; omega) | (simp; done))))
      have HZ4 := Lib.hid ((Blk.new' (n := w.heap.size + 1) _ (by simp)).below b4 (by simp) : Blk w4 (w.heap.size + 1) 28 #[.int .i64 0, .slice none 0 0])
      have HG4 := Lib.hid (((Blk.new w _ _).alloc _).below b4 (by simp <;> omega) : Blk w4 w.heap.size 28 #[.int .i64 n, .slice A L c])
      have Hb4 : Hid (Below w.heap.size w w4) := by show Below _ _ _; exact Below.trans (b := ((w.alloc (.cells #[.int .i64 n, .slice A L c] 28)).alloc (.cells #[.int .i64 0, .slice none 0 0] 28))) (by (repeat' (first | (with_reducible exact Below.refl _ _) | (with_reducible assumption) | (with_reducible refine Below.alloc ?_ ?_ _) | (with_reducible refine Below.drew ?_) | (with_reducible refine below_drewN ?_ _) | (with_reducible refine Below.setCell ?_ ?_ _) | (with_reducible refine Below.trans ?_ (Below.mono (by assumption) ?_)) | (first | omega | (simp only [World.size_alloc, World.size_setCell, World.size_drew]; omega) | (simp; omega) | (simp; done))))) (b4.mono (by simp; omega))
      clear b4
      have x0 := HZ4.out.cellAt 0 _ rfl
      have x1 : (w4.setCell ⟨w.heap.size + 1, 0, none⟩ (.int .i64 0)).cell? ⟨w.heap.size + 1, 1, none⟩ = some (.slice none 0 0) := (sc_other (by simp)).trans (HZ4.out.cellAt 1 _ rfl)
      have f0 := HZ4.out.frozen 0
      have f1 := HZ4.out.frozen 1
      go_wp2
      refine ret_cell_tmp Try.results13 Try.underlying28 rfl (by kernel_rfl) rfl ((HZ4.out.set_ 0 (.int .i64 0)).set_ 1 (.slice none 0 0)) rfl rfl ⟨⟨none, 0, rfl, FrE.nil⟩, (Hb4.out.setCell (by show w.heap.size ≤ w.heap.size + 1; omega) _).setCell (by show w.heap.size ≤ w.heap.size + 1; omega) _⟩

    · have cg := fun W (hW : Below w.heap.size w W) => cg W qc hW
      rw [show gcode qg qc = r from hc] at cg
      clear hc
      go_enter Try.func13, Try.ntmps13
      go_wp2
      refine wp_region_noPanic ?_
      refine wp_region_held_drew (S := (fun w' => w'.cell? ⟨w.heap.size, 0, none⟩ = some (.int .i64 n) ∧ w'.cell? ⟨w.heap.size, 1, none⟩ = some (.slice A L c))) (by kernel_rfl) ?_ (fun hHeld => ?_)
      · (try dsimp only); (first | go_keep | (obtain ⟨hq, _⟩ := bcell ‹Below _ _ _›; (repeat' apply And.intro) <;> (rw [hq _ _ (by first | assumption | omega | (simp; done) | (simp; omega) | (simp; assumption))] <;> (first | assumption | (simp [*]; done)))))
      refine wpAnyH_take_d (i := 0) (d := some 17) (v := ?v33) rfl rfl (by kernel_rfl) (by kernel_rfl) (by kernel_rfl) (fun _ _ _ h => h) (Or.inl ⟨by kernel_rfl, ?y33⟩) (by assumption) ?_
      case y33 => (intro w' hSw; (try dsimp only at hSw); go_simp; try with_reducible rfl)
      try simp only [Act.put, List.setIfInBounds_toArray, List.set_cons_zero, List.set_cons_succ]
      refine wpAnyH_take_d (i := 1) (d := some 18) (v := ?v34) rfl rfl (by kernel_rfl) (by kernel_rfl) (by kernel_rfl) (fun _ _ _ h => h) (Or.inl ⟨by kernel_rfl, ?y34⟩) (by assumption) ?_
      case y34 => (intro w' hSw; (try dsimp only at hSw); go_simp; try with_reducible rfl)
      try simp only [Act.put, List.setIfInBounds_toArray, List.set_cons_zero, List.set_cons_succ]
      refine wpAnyH_take_d (i := 2) (d := some 19) (v := ?v35) rfl rfl (by kernel_rfl) (by kernel_rfl) (by kernel_rfl) (fun _ _ _ h => h) (Or.inl ⟨by kernel_rfl, ?y35⟩) (by assumption) ?_
      case y35 => (intro w' hSw; (try dsimp only at hSw); go_simp; try with_reducible rfl)
      try simp only [Act.put, List.setIfInBounds_toArray, List.set_cons_zero, List.set_cons_succ]
      refine wpAnyH_ready (rs := [3]) (by kernel_rfl) (by simp) ?_
      refine AllReadyH.cons rfl (fun K hK => ?_) AllReadyH.nil
      go_simp
      refine (ca _).mono ?_; rintro e w1 ⟨rfl, hb1⟩; have z1 := hb1.size; (try simp only [World.size_alloc, World.size_setCell, World.size_drew] at z1)
      refine hK.out _ _ ?s36 (fun hHeld36 => ?_)
      case s36 => ((try dsimp only); (first | go_keep | (obtain ⟨hq, _⟩ := bcell ‹Below _ _ _›; (repeat' apply And.intro) <;> (rw [hq _ _ (by first | assumption | omega | (simp; done) | (simp; omega) | (simp; assumption))] <;> (first | assumption | (simp [*]; done))))))
      clear hK K hHeld
      have hHeld := hHeld36; clear hHeld36
      try simp only [Act.put, List.setIfInBounds_toArray, List.set_cons_zero, List.set_cons_succ]
      refine wpAnyH_take_d (i := 4) (d := some 21) (v := ?v37) rfl rfl (by kernel_rfl) (by kernel_rfl) (by kernel_rfl) (fun _ _ _ h => h) (Or.inl ⟨by kernel_rfl, ?y37⟩) (by assumption) ?_
      case y37 => (intro w' hSw; (try dsimp only at hSw); go_simp; try with_reducible rfl)
      try simp only [Act.put, List.setIfInBounds_toArray, List.set_cons_zero, List.set_cons_succ]
      refine wpAnyH_take_d (i := 5) (d := some 22) (v := ?v38) rfl rfl (by kernel_rfl) (by kernel_rfl) (by kernel_rfl) (fun _ _ _ h => h) (Or.inl ⟨by kernel_rfl, ?y38⟩) (by assumption) ?_
      case y38 => (intro w' hSw; (try dsimp only at hSw); go_simp; try with_reducible rfl)
      try simp only [Act.put, List.setIfInBounds_toArray, List.set_cons_zero, List.set_cons_succ]
      refine wpAnyH_take_d (i := 6) (d := some 23) (v := ?v39) rfl rfl (by kernel_rfl) (by kernel_rfl) (by kernel_rfl) (fun _ _ _ h => h) (Or.inl ⟨by kernel_rfl, ?y39⟩) (by assumption) ?_
      case y39 => (intro w' hSw; (try dsimp only at hSw); go_simp; try with_reducible rfl)
      try simp only [Act.put, List.setIfInBounds_toArray, List.set_cons_zero, List.set_cons_succ]
      refine wpAnyH_ready (rs := [7]) (by kernel_rfl) (by simp) ?_
      refine AllReadyH.cons rfl (fun K hK => ?_) AllReadyH.nil
      go_simp
      refine (cb _).mono ?_; rintro e w2 ⟨rfl, hb2⟩; have z2 := hb2.size; (try simp only [World.size_alloc, World.size_setCell, World.size_drew] at z2)
      refine hK.out _ _ ?s40 (fun hHeld40 => ?_)
      case s40 => ((try dsimp only); (first | go_keep | (obtain ⟨hq, _⟩ := bcell ‹Below _ _ _›; (repeat' apply And.intro) <;> (rw [hq _ _ (by first | assumption | omega | (simp; done) | (simp; omega) | (simp; assumption))] <;> (first | assumption | (simp [*]; done))))))
      clear hK K hHeld
      have hHeld := hHeld40; clear hHeld40
      try simp only [Act.put, List.setIfInBounds_toArray, List.set_cons_zero, List.set_cons_succ]
      refine wpAnyH_take_d (i := 8) (d := some 25) (v := ?v41) rfl rfl (by kernel_rfl) (by kernel_rfl) (by kernel_rfl) (fun _ _ _ h => h) (Or.inl ⟨by kernel_rfl, ?y41⟩) (by assumption) ?_
      case y41 => (intro w' hSw; (try dsimp only at hSw); go_simp; try with_reducible rfl)
      try simp only [Act.put, List.setIfInBounds_toArray, List.set_cons_zero, List.set_cons_succ]
      refine wpAnyH_take_d (i := 9) (d := some 26) (v := ?v42) rfl rfl (by kernel_rfl) (by kernel_rfl) (by kernel_rfl) (fun _ _ _ h => h) (Or.inl ⟨by kernel_rfl, ?y42⟩) (by assumption) ?_
      case y42 => (intro w' hSw; (try dsimp only at hSw); go_simp; try with_reducible rfl)
      try simp only [Act.put, List.setIfInBounds_toArray, List.set_cons_zero, List.set_cons_succ]
      refine wpAnyH_take_d (i := 10) (d := some 27) (v := ?v43) rfl rfl (by kernel_rfl) (by kernel_rfl) (by kernel_rfl) (fun _ _ _ h => h) (Or.inl ⟨by kernel_rfl, ?y43⟩) (by assumption) ?_
      case y43 => (intro w' hSw; (try dsimp only at hSw); go_simp; try with_reducible rfl)
      try simp only [Act.put, List.setIfInBounds_toArray, List.set_cons_zero, List.set_cons_succ]
      refine wpAnyH_take_d (i := 11) (d := some 28) (v := ?v44) rfl rfl (by kernel_rfl) (by kernel_rfl) (by kernel_rfl) (fun _ _ _ h => h) (Or.inl ⟨by kernel_rfl, ?y44⟩) (by assumption) ?_
      case y44 => (intro w' hSw; (try dsimp only at hSw); go_simp; try with_reducible rfl)
      try simp only [Act.put, List.setIfInBounds_toArray, List.set_cons_zero, List.set_cons_succ]
      refine wpAnyH_ready (rs := [12]) (by kernel_rfl) (by simp) ?_
      refine AllReadyH.cons rfl (fun K hK => ?_) AllReadyH.nil
      go_simp
      refine (cc _).mono ?_; rintro e w3 ⟨rfl, hb3⟩; have z3 := hb3.size; (try simp only [World.size_alloc, World.size_setCell, World.size_drew] at z3)
      refine hK.out _ _ ?s45 (fun hHeld45 => ?_)
      case s45 => ((try dsimp only); (first | go_keep | (obtain ⟨hq, _⟩ := bcell ‹Below _ _ _›; (repeat' apply And.intro) <;> (rw [hq _ _ (by first | assumption | omega | (simp; done) | (simp; omega) | (simp; assumption))] <;> (first | assumption | (simp [*]; done))))))
      clear hK K hHeld
      have hHeld := hHeld45; clear hHeld45
      try simp only [Act.put, List.setIfInBounds_toArray, List.set_cons_zero, List.set_cons_succ]
      refine wpAnyH_take_d (i := 13) (d := some 30) (v := ?v46) rfl rfl (by kernel_rfl) (by kernel_rfl) (by kernel_rfl) (fun _ _ _ h => h) (Or.inl ⟨by kernel_rfl, ?y46⟩) (by assumption) ?_
      case y46 => (intro w' hSw; (try dsimp only at hSw); go_simp; try with_reducible rfl)
      try simp only [Act.put, List.setIfInBounds_toArray, List.set_cons_zero, List.set_cons_succ]
      refine wpAnyH_ready (rs := [14]) (by kernel_rfl) (by simp) ?_
      refine AllReadyH.cons rfl (fun K hK => ?_) AllReadyH.nil
      go_simp
      refine (cg _ (by (repeat' (first | (with_reducible exact Below.refl _ _) | (with_reducible assumption) | (with_reducible refine Below.alloc ?_ ?_ _) | (with_reducible refine Below.drew ?_) | (with_reducible refine below_drewN ?_ _) | (with_reducible refine Below.setCell ?_ ?_ _) | (with_reducible refine Below.trans ?_ (Below.mono (by assumption) ?_)) | (first | omega | (simp only [World.size_alloc, World.size_setCell, World.size_drew]; omega) | (simp; omega) | (simp; done)))))).mono ?_; rintro e w4 ⟨rfl, hb4⟩; have z4 := hb4.size; (try simp only [World.size_alloc, World.size_setCell, World.size_drew] at z4)
      refine hK.out _ _ ?s47 (fun hHeld47 => ?_)
      case s47 => ((try dsimp only); (first | go_keep | (obtain ⟨hq, _⟩ := bcell ‹Below _ _ _›; (repeat' apply And.intro) <;> (rw [hq _ _ (by first | assumption | omega | (simp; done) | (simp; omega) | (simp; assumption))] <;> (first | assumption | (simp [*]; done))))))
      clear hK K hHeld
      have hHeld := hHeld47; clear hHeld47
      try simp only [Act.put, List.setIfInBounds_toArray, List.set_cons_zero, List.set_cons_succ]
      refine wpAnyH_take_d (i := 15) (d := some 10) (v := ?v48) rfl rfl (by kernel_rfl) (by kernel_rfl) (by kernel_rfl) (fun _ _ _ h => h) (Or.inl ⟨by kernel_rfl, ?y48⟩) (by assumption) ?_
      case y48 => (intro w' hSw; (try dsimp only at hSw); go_simp; try with_reducible rfl)
      try simp only [Act.put, List.setIfInBounds_toArray, List.set_cons_zero, List.set_cons_succ]
      refine wpAnyH_done (by kernel_rfl) ?_ _
      refine NoPanic.normal ?_
      clear hHeld
      have b4 : Below ((w.alloc (.cells #[.int .i64 n, .slice A L c] 28)).alloc (.cells #[.int .i64 0, .slice none 0 0] 28)).heap.size ((w.alloc (.cells #[.int .i64 n, .slice A L c] 28)).alloc (.cells #[.int .i64 0, .slice none 0 0] 28)) w4 := by (repeat' (first | (with_reducible exact Below.refl _ _) | (with_reducible assumption) | (with_reducible refine Below.alloc ?_ ?_ _) | (with_reducible refine Below.drew ?_) | (with_reducible refine below_drewN ?_ _) | (with_reducible refine Below.setCell ?_ ?_ _) | (with_reducible refine Below.trans ?_ (Below.mono (by assumption) ?_)) | (first | omega | (simp only [World.size_alloc, World.size_setCell, World.size_drew]; omega) | (simp; omega) | (simp; done))))
      have HZ4 := Lib.hid ((Blk.new' (n := w.heap.size + 1) _ (by simp)).below b4 (by simp) : Blk w4 (w.heap.size + 1) 28 #[.int .i64 0, .slice none 0 0])
      have HG4 := Lib.hid (((Blk.new w _ _).alloc _).below b4 (by simp <;> omega) : Blk w4 w.heap.size 28 #[.int .i64 n, .slice A L c])
      have Hb4 : Hid (Below w.heap.size w w4) := by show Below _ _ _; exact Below.trans (b := ((w.alloc (.cells #[.int .i64 n, .slice A L c] 28)).alloc (.cells #[.int .i64 0, .slice none 0 0] 28))) (by (repeat' (first | (with_reducible exact Below.refl _ _) | (with_reducible assumption) | (with_reducible refine Below.alloc ?_ ?_ _) | (with_reducible refine Below.drew ?_) | (with_reducible refine below_drewN ?_ _) | (with_reducible refine Below.setCell ?_ ?_ _) | (with_reducible refine Below.trans ?_ (Below.mono (by assumption) ?_)) | (first | omega | (simp only [World.size_alloc, World.size_setCell, World.size_drew]; omega) | (simp; omega) | (simp; done))))) (b4.mono (by simp; omega))
      clear b4
      have x0 := HZ4.out.cellAt 0 _ rfl
      have x1 : (w4.setCell ⟨w.heap.size + 1, 0, none⟩ (.int .i64 0)).cell? ⟨w.heap.size + 1, 1, none⟩ = some (.slice none 0 0) := (sc_other (by simp)).trans (HZ4.out.cellAt 1 _ rfl)
      have f0 := HZ4.out.frozen 0
      have f1 := HZ4.out.frozen 1
      go_wp2
      refine ret_cell_tmp Try.results13 Try.underlying28 rfl (by kernel_rfl) rfl ((HZ4.out.set_ 0 (.int .i64 0)).set_ 1 (.slice none 0 0)) rfl rfl ⟨⟨none, 0, rfl, FrE.nil⟩, (Hb4.out.setCell (by show w.heap.size ≤ w.heap.size + 1; omega) _).setCell (by show w.heap.size ≤ w.heap.size + 1; omega) _⟩

set_option maxHeartbeats 8000000 in
/-- The vertices are no triangle. -/
theorem implTri_state (n : Int) (A : Option Addr) (c : Nat) (es : List (Int × Int)) (a b d : Int) (w : World) (N : Nat) (hl : es.length ≤ 1000) (hN : N ≤ 60) (hin : InN N es) (hr : RdE w A es) (hq : Hid (isGraphB n es = true)) (ha : Hid (inB a 0 (wrap64 (n - 1)) = true)) (hb : Hid (inB b 0 (wrap64 (n - 1)) = true)) (hd : Hid (inB d 0 (wrap64 (n - 1)) = true)) (h0 : (0 ≤ a ∧ a ≤ 1000) ∧ (0 ≤ b ∧ b ≤ 1000))
    (h : a = b ∨ (a ≠ b ∧ a = d) ∨ (a ≠ b ∧ a ≠ d ∧ b = d) ∨ (a ≠ b ∧ a ≠ d ∧ b ≠ d ∧ joinN es a b ≠ 1) ∨ (a ≠ b ∧ a ≠ d ∧ b ≠ d ∧ joinN es a b = 1 ∧ joinN es a d ≠ 1) ∨ (a ≠ b ∧ a ≠ d ∧ b ≠ d ∧ joinN es a b = 1 ∧ joinN es a d = 1 ∧ joinN es b d ≠ 1)) :
    Calls Try.prog 13 #[.agg #[.int .i64 n, .slice A es.length c], .int .i64 a, .int .i64 b, .int .i64 d] w fun e w' => RetG w' w.heap.size e 0 [] 5 ∧ Below w.heap.size w w' := by
  have ca := fun W => isVertex_b n A es.length c a W true ha
  have cb := fun W => isVertex_b n A es.length c b W true hb
  have cc := fun W => isVertex_b n A es.length c d W true hd
  have cg := fun W (hW : Below w.heap.size w W) => graphCode_b n A c es W true true hq (by omega) (hr.below hW)
  rw [show gcode true true = 0 from rfl] at cg
  have C1 := Lib.hid fun W (hW : Below w.heap.size w W) => joins_b n A c es N a b W (by omega) (by omega) hin (by omega) (hr.below hW)
  have C2 := Lib.hid fun W (hW : Below w.heap.size w W) => joins_b n A c es N a d W (by omega) (by omega) hin (by omega) (hr.below hW)
  have C3 := Lib.hid fun W (hW : Below w.heap.size w W) => joins_b n A c es N b d W (by omega) (by omega) hin (by omega) (hr.below hW)
  clear hr hq ha hb hd hl hin h0
  obtain ⟨j1, Hj1⟩ : ∃ j : Nat, Hid (joinN es a b = j) := ⟨_, rfl⟩
  obtain ⟨j2, Hj2⟩ : ∃ j : Nat, Hid (joinN es a d = j) := ⟨_, rfl⟩
  obtain ⟨j3, Hj3⟩ : ∃ j : Nat, Hid (joinN es b d = j) := ⟨_, rfl⟩
  rw [Hj1.out] at h C1
  rw [Hj2.out] at h C2
  rw [Hj3.out] at h C3
  clear Hj1 Hj2 Hj3
  generalize es.length = L at *
  go_enter Try.func13, Try.ntmps13
  go_wp2
  refine wp_region_noPanic ?_
  refine wp_region_held_drew (S := (fun w' => w'.cell? ⟨w.heap.size, 0, none⟩ = some (.int .i64 n) ∧ w'.cell? ⟨w.heap.size, 1, none⟩ = some (.slice A L c))) (by kernel_rfl) ?_ (fun hHeld => ?_)
  · (try dsimp only); (first | go_keep | (obtain ⟨hq, _⟩ := bcell ‹Below _ _ _›; (repeat' apply And.intro) <;> (rw [hq _ _ (by first | assumption | omega | (simp; done) | (simp; omega) | (simp; assumption))] <;> (first | assumption | (simp [*]; done)))))
  refine wpAnyH_take_d (i := 0) (d := some 17) (v := ?v49) rfl rfl (by kernel_rfl) (by kernel_rfl) (by kernel_rfl) (fun _ _ _ h => h) (Or.inl ⟨by kernel_rfl, ?y49⟩) (by assumption) ?_
  case y49 => (intro w' hSw; (try dsimp only at hSw); go_simp; try with_reducible rfl)
  try simp only [Act.put, List.setIfInBounds_toArray, List.set_cons_zero, List.set_cons_succ]
  refine wpAnyH_take_d (i := 1) (d := some 18) (v := ?v50) rfl rfl (by kernel_rfl) (by kernel_rfl) (by kernel_rfl) (fun _ _ _ h => h) (Or.inl ⟨by kernel_rfl, ?y50⟩) (by assumption) ?_
  case y50 => (intro w' hSw; (try dsimp only at hSw); go_simp; try with_reducible rfl)
  try simp only [Act.put, List.setIfInBounds_toArray, List.set_cons_zero, List.set_cons_succ]
  refine wpAnyH_take_d (i := 2) (d := some 19) (v := ?v51) rfl rfl (by kernel_rfl) (by kernel_rfl) (by kernel_rfl) (fun _ _ _ h => h) (Or.inl ⟨by kernel_rfl, ?y51⟩) (by assumption) ?_
  case y51 => (intro w' hSw; (try dsimp only at hSw); go_simp; try with_reducible rfl)
  try simp only [Act.put, List.setIfInBounds_toArray, List.set_cons_zero, List.set_cons_succ]
  refine wpAnyH_ready (rs := [3]) (by kernel_rfl) (by simp) ?_
  refine AllReadyH.cons rfl (fun K hK => ?_) AllReadyH.nil
  go_simp
  refine (ca _).mono ?_; rintro e w1 ⟨rfl, hb1⟩; have z1 := hb1.size; (try simp only [World.size_alloc, World.size_setCell, World.size_drew] at z1)
  refine hK.out _ _ ?s52 (fun hHeld52 => ?_)
  case s52 => ((try dsimp only); (first | go_keep | (obtain ⟨hq, _⟩ := bcell ‹Below _ _ _›; (repeat' apply And.intro) <;> (rw [hq _ _ (by first | assumption | omega | (simp; done) | (simp; omega) | (simp; assumption))] <;> (first | assumption | (simp [*]; done))))))
  clear hK K hHeld
  have hHeld := hHeld52; clear hHeld52
  try simp only [Act.put, List.setIfInBounds_toArray, List.set_cons_zero, List.set_cons_succ]
  refine wpAnyH_take_d (i := 4) (d := some 21) (v := ?v53) rfl rfl (by kernel_rfl) (by kernel_rfl) (by kernel_rfl) (fun _ _ _ h => h) (Or.inl ⟨by kernel_rfl, ?y53⟩) (by assumption) ?_
  case y53 => (intro w' hSw; (try dsimp only at hSw); go_simp; try with_reducible rfl)
  try simp only [Act.put, List.setIfInBounds_toArray, List.set_cons_zero, List.set_cons_succ]
  refine wpAnyH_take_d (i := 5) (d := some 22) (v := ?v54) rfl rfl (by kernel_rfl) (by kernel_rfl) (by kernel_rfl) (fun _ _ _ h => h) (Or.inl ⟨by kernel_rfl, ?y54⟩) (by assumption) ?_
  case y54 => (intro w' hSw; (try dsimp only at hSw); go_simp; try with_reducible rfl)
  try simp only [Act.put, List.setIfInBounds_toArray, List.set_cons_zero, List.set_cons_succ]
  refine wpAnyH_take_d (i := 6) (d := some 23) (v := ?v55) rfl rfl (by kernel_rfl) (by kernel_rfl) (by kernel_rfl) (fun _ _ _ h => h) (Or.inl ⟨by kernel_rfl, ?y55⟩) (by assumption) ?_
  case y55 => (intro w' hSw; (try dsimp only at hSw); go_simp; try with_reducible rfl)
  try simp only [Act.put, List.setIfInBounds_toArray, List.set_cons_zero, List.set_cons_succ]
  refine wpAnyH_ready (rs := [7]) (by kernel_rfl) (by simp) ?_
  refine AllReadyH.cons rfl (fun K hK => ?_) AllReadyH.nil
  go_simp
  refine (cb _).mono ?_; rintro e w2 ⟨rfl, hb2⟩; have z2 := hb2.size; (try simp only [World.size_alloc, World.size_setCell, World.size_drew] at z2)
  refine hK.out _ _ ?s56 (fun hHeld56 => ?_)
  case s56 => ((try dsimp only); (first | go_keep | (obtain ⟨hq, _⟩ := bcell ‹Below _ _ _›; (repeat' apply And.intro) <;> (rw [hq _ _ (by first | assumption | omega | (simp; done) | (simp; omega) | (simp; assumption))] <;> (first | assumption | (simp [*]; done))))))
  clear hK K hHeld
  have hHeld := hHeld56; clear hHeld56
  try simp only [Act.put, List.setIfInBounds_toArray, List.set_cons_zero, List.set_cons_succ]
  refine wpAnyH_take_d (i := 8) (d := some 25) (v := ?v57) rfl rfl (by kernel_rfl) (by kernel_rfl) (by kernel_rfl) (fun _ _ _ h => h) (Or.inl ⟨by kernel_rfl, ?y57⟩) (by assumption) ?_
  case y57 => (intro w' hSw; (try dsimp only at hSw); go_simp; try with_reducible rfl)
  try simp only [Act.put, List.setIfInBounds_toArray, List.set_cons_zero, List.set_cons_succ]
  refine wpAnyH_take_d (i := 9) (d := some 26) (v := ?v58) rfl rfl (by kernel_rfl) (by kernel_rfl) (by kernel_rfl) (fun _ _ _ h => h) (Or.inl ⟨by kernel_rfl, ?y58⟩) (by assumption) ?_
  case y58 => (intro w' hSw; (try dsimp only at hSw); go_simp; try with_reducible rfl)
  try simp only [Act.put, List.setIfInBounds_toArray, List.set_cons_zero, List.set_cons_succ]
  refine wpAnyH_take_d (i := 10) (d := some 27) (v := ?v59) rfl rfl (by kernel_rfl) (by kernel_rfl) (by kernel_rfl) (fun _ _ _ h => h) (Or.inl ⟨by kernel_rfl, ?y59⟩) (by assumption) ?_
  case y59 => (intro w' hSw; (try dsimp only at hSw); go_simp; try with_reducible rfl)
  try simp only [Act.put, List.setIfInBounds_toArray, List.set_cons_zero, List.set_cons_succ]
  refine wpAnyH_take_d (i := 11) (d := some 28) (v := ?v60) rfl rfl (by kernel_rfl) (by kernel_rfl) (by kernel_rfl) (fun _ _ _ h => h) (Or.inl ⟨by kernel_rfl, ?y60⟩) (by assumption) ?_
  case y60 => (intro w' hSw; (try dsimp only at hSw); go_simp; try with_reducible rfl)
  try simp only [Act.put, List.setIfInBounds_toArray, List.set_cons_zero, List.set_cons_succ]
  refine wpAnyH_ready (rs := [12]) (by kernel_rfl) (by simp) ?_
  refine AllReadyH.cons rfl (fun K hK => ?_) AllReadyH.nil
  go_simp
  refine (cc _).mono ?_; rintro e w3 ⟨rfl, hb3⟩; have z3 := hb3.size; (try simp only [World.size_alloc, World.size_setCell, World.size_drew] at z3)
  refine hK.out _ _ ?s61 (fun hHeld61 => ?_)
  case s61 => ((try dsimp only); (first | go_keep | (obtain ⟨hq, _⟩ := bcell ‹Below _ _ _›; (repeat' apply And.intro) <;> (rw [hq _ _ (by first | assumption | omega | (simp; done) | (simp; omega) | (simp; assumption))] <;> (first | assumption | (simp [*]; done))))))
  clear hK K hHeld
  have hHeld := hHeld61; clear hHeld61
  try simp only [Act.put, List.setIfInBounds_toArray, List.set_cons_zero, List.set_cons_succ]
  refine wpAnyH_take_d (i := 13) (d := some 30) (v := ?v62) rfl rfl (by kernel_rfl) (by kernel_rfl) (by kernel_rfl) (fun _ _ _ h => h) (Or.inl ⟨by kernel_rfl, ?y62⟩) (by assumption) ?_
  case y62 => (intro w' hSw; (try dsimp only at hSw); go_simp; try with_reducible rfl)
  try simp only [Act.put, List.setIfInBounds_toArray, List.set_cons_zero, List.set_cons_succ]
  refine wpAnyH_ready (rs := [14]) (by kernel_rfl) (by simp) ?_
  refine AllReadyH.cons rfl (fun K hK => ?_) AllReadyH.nil
  go_simp
  refine (cg _ (by (repeat' (first | (with_reducible exact Below.refl _ _) | (with_reducible assumption) | (with_reducible refine Below.alloc ?_ ?_ _) | (with_reducible refine Below.drew ?_) | (with_reducible refine below_drewN ?_ _) | (with_reducible refine Below.setCell ?_ ?_ _) | (with_reducible refine Below.trans ?_ (Below.mono (by assumption) ?_)) | (first | omega | (simp only [World.size_alloc, World.size_setCell, World.size_drew]; omega) | (simp; omega) | (simp; done)))))).mono ?_; rintro e w4 ⟨rfl, hb4⟩; have z4 := hb4.size; (try simp only [World.size_alloc, World.size_setCell, World.size_drew] at z4)
  refine hK.out _ _ ?s63 (fun hHeld63 => ?_)
  case s63 => ((try dsimp only); (first | go_keep | (obtain ⟨hq, _⟩ := bcell ‹Below _ _ _›; (repeat' apply And.intro) <;> (rw [hq _ _ (by first | assumption | omega | (simp; done) | (simp; omega) | (simp; assumption))] <;> (first | assumption | (simp [*]; done))))))
  clear hK K hHeld
  have hHeld := hHeld63; clear hHeld63
  try simp only [Act.put, List.setIfInBounds_toArray, List.set_cons_zero, List.set_cons_succ]
  refine wpAnyH_take_d (i := 15) (d := some 10) (v := ?v64) rfl rfl (by kernel_rfl) (by kernel_rfl) (by kernel_rfl) (fun _ _ _ h => h) (Or.inl ⟨by kernel_rfl, ?y64⟩) (by assumption) ?_
  case y64 => (intro w' hSw; (try dsimp only at hSw); go_simp; try with_reducible rfl)
  try simp only [Act.put, List.setIfInBounds_toArray, List.set_cons_zero, List.set_cons_succ]
  refine wpAnyH_done (by kernel_rfl) ?_ _
  refine NoPanic.normal ?_
  clear hHeld
  have b4 : Below ((w.alloc (.cells #[.int .i64 n, .slice A L c] 28)).alloc (.cells #[.int .i64 0, .slice none 0 0] 28)).heap.size ((w.alloc (.cells #[.int .i64 n, .slice A L c] 28)).alloc (.cells #[.int .i64 0, .slice none 0 0] 28)) w4 := by (repeat' (first | (with_reducible exact Below.refl _ _) | (with_reducible assumption) | (with_reducible refine Below.alloc ?_ ?_ _) | (with_reducible refine Below.drew ?_) | (with_reducible refine below_drewN ?_ _) | (with_reducible refine Below.setCell ?_ ?_ _) | (with_reducible refine Below.trans ?_ (Below.mono (by assumption) ?_)) | (first | omega | (simp only [World.size_alloc, World.size_setCell, World.size_drew]; omega) | (simp; omega) | (simp; done))))
  have HZ4 := Lib.hid ((Blk.new' (n := w.heap.size + 1) _ (by simp)).below b4 (by simp) : Blk w4 (w.heap.size + 1) 28 #[.int .i64 0, .slice none 0 0])
  have HG4 := Lib.hid (((Blk.new w _ _).alloc _).below b4 (by simp <;> omega) : Blk w4 w.heap.size 28 #[.int .i64 n, .slice A L c])
  have Hb4 : Hid (Below w.heap.size w w4) := by show Below _ _ _; exact Below.trans (b := ((w.alloc (.cells #[.int .i64 n, .slice A L c] 28)).alloc (.cells #[.int .i64 0, .slice none 0 0] 28))) (by (repeat' (first | (with_reducible exact Below.refl _ _) | (with_reducible assumption) | (with_reducible refine Below.alloc ?_ ?_ _) | (with_reducible refine Below.drew ?_) | (with_reducible refine below_drewN ?_ _) | (with_reducible refine Below.setCell ?_ ?_ _) | (with_reducible refine Below.trans ?_ (Below.mono (by assumption) ?_)) | (first | omega | (simp only [World.size_alloc, World.size_setCell, World.size_drew]; omega) | (simp; omega) | (simp; done))))) (b4.mono (by simp; omega))
  clear b4

  rcases h with h1 | ⟨h1, h2⟩ | ⟨h1, h2, h3⟩ | ⟨h1, h2, h3, h4⟩ | ⟨h1, h2, h3, h4, h5⟩ | ⟨h1, h2, h3, h4, h5, h6⟩
  · have g2 : (a == b) = true := by simpa using h1
    clear h1
    have x0 := HZ4.out.cellAt 0 _ rfl
    have x1 : (w4.setCell ⟨w.heap.size + 1, 0, none⟩ (.int .i64 0)).cell? ⟨w.heap.size + 1, 1, none⟩ = some (.slice none 0 0) := (sc_other (by simp)).trans (HZ4.out.cellAt 1 _ rfl)
    have f0 := HZ4.out.frozen 0
    have f1 := HZ4.out.frozen 1
    go_wp2
    refine ret_cell_tmp Try.results13 Try.underlying28 rfl (by kernel_rfl) rfl ((HZ4.out.set_ 0 (.int .i64 0)).set_ 1 (.slice none 0 0)) rfl rfl ⟨⟨none, 0, rfl, FrE.nil⟩, (Hb4.out.setCell (by show w.heap.size ≤ w.heap.size + 1; omega) _).setCell (by show w.heap.size ≤ w.heap.size + 1; omega) _⟩
  · have g2 : (a == b) = false := by simpa using h1
    have g3 : (a == d) = true := by simpa using h2
    clear h1 h2
    have x0 := HZ4.out.cellAt 0 _ rfl
    have x1 : (w4.setCell ⟨w.heap.size + 1, 0, none⟩ (.int .i64 0)).cell? ⟨w.heap.size + 1, 1, none⟩ = some (.slice none 0 0) := (sc_other (by simp)).trans (HZ4.out.cellAt 1 _ rfl)
    have f0 := HZ4.out.frozen 0
    have f1 := HZ4.out.frozen 1
    go_wp2
    refine ret_cell_tmp Try.results13 Try.underlying28 rfl (by kernel_rfl) rfl ((HZ4.out.set_ 0 (.int .i64 0)).set_ 1 (.slice none 0 0)) rfl rfl ⟨⟨none, 0, rfl, FrE.nil⟩, (Hb4.out.setCell (by show w.heap.size ≤ w.heap.size + 1; omega) _).setCell (by show w.heap.size ≤ w.heap.size + 1; omega) _⟩
  · have g2 : (a == b) = false := by simpa using h1
    have g3 : (a == d) = false := by simpa using h2
    have g4 : (b == d) = true := by simpa using h3
    clear h1 h2 h3
    have x0 := HZ4.out.cellAt 0 _ rfl
    have x1 : (w4.setCell ⟨w.heap.size + 1, 0, none⟩ (.int .i64 0)).cell? ⟨w.heap.size + 1, 1, none⟩ = some (.slice none 0 0) := (sc_other (by simp)).trans (HZ4.out.cellAt 1 _ rfl)
    have f0 := HZ4.out.frozen 0
    have f1 := HZ4.out.frozen 1
    go_wp2
    refine ret_cell_tmp Try.results13 Try.underlying28 rfl (by kernel_rfl) rfl ((HZ4.out.set_ 0 (.int .i64 0)).set_ 1 (.slice none 0 0)) rfl rfl ⟨⟨none, 0, rfl, FrE.nil⟩, (Hb4.out.setCell (by show w.heap.size ≤ w.heap.size + 1; omega) _).setCell (by show w.heap.size ≤ w.heap.size + 1; omega) _⟩
  · have g2 : (a == b) = false := by simpa using h1
    have g3 : (a == d) = false := by simpa using h2
    have g4 : (b == d) = false := by simpa using h3
    have g5 : ((j1 : Int) != 1) = true := by simp; omega
    clear h1 h2 h3 h4
    have k0 := HG4.out.cellAt 0 _ rfl
    have k1 := HG4.out.cellAt 1 _ rfl
    have z9 := HZ4.out.lt
    go_wp2_with fail
    refine (C1.out w4 Hb4.out).mono ?_
    rintro e w5 ⟨rfl, hb5⟩
    have HG5 := Lib.hid (HG4.out.below hb5 (by have := HZ4.out.lt; omega))
    have HZ5 := Lib.hid (HZ4.out.below hb5 HZ4.out.lt)
    have Hb5 : Hid (Below w.heap.size w w5) := Hb4.out.trans (hb5.mono (by have := HZ4.out.lt; omega))
    clear k0 k1 z9 hb5 HG4 HZ4 Hb4
    have k0 := HG5.out.cellAt 0 _ rfl
    have k1 := HG5.out.cellAt 1 _ rfl
    have z9 := HZ5.out.lt
    have x0 := HZ5.out.cellAt 0 _ rfl
    have x1 : (w5.setCell ⟨w.heap.size + 1, 0, none⟩ (.int .i64 0)).cell? ⟨w.heap.size + 1, 1, none⟩ = some (.slice none 0 0) := (sc_other (by simp)).trans (HZ5.out.cellAt 1 _ rfl)
    have f0 := HZ5.out.frozen 0
    have f1 := HZ5.out.frozen 1
    go_wp2
    refine ret_cell_tmp Try.results13 Try.underlying28 rfl (by kernel_rfl) rfl ((HZ5.out.set_ 0 (.int .i64 0)).set_ 1 (.slice none 0 0)) rfl rfl ⟨⟨none, 0, rfl, FrE.nil⟩, (Hb5.out.setCell (by show w.heap.size ≤ w.heap.size + 1; omega) _).setCell (by show w.heap.size ≤ w.heap.size + 1; omega) _⟩
  · have g2 : (a == b) = false := by simpa using h1
    have g3 : (a == d) = false := by simpa using h2
    have g4 : (b == d) = false := by simpa using h3
    have g5 : ((j1 : Int) != 1) = false := by simp; omega
    have g6 : ((j2 : Int) != 1) = true := by simp; omega
    clear h1 h2 h3 h4 h5
    have k0 := HG4.out.cellAt 0 _ rfl
    have k1 := HG4.out.cellAt 1 _ rfl
    have z9 := HZ4.out.lt
    go_wp2_with fail
    refine (C1.out w4 Hb4.out).mono ?_
    rintro e w5 ⟨rfl, hb5⟩
    have HG5 := Lib.hid (HG4.out.below hb5 (by have := HZ4.out.lt; omega))
    have HZ5 := Lib.hid (HZ4.out.below hb5 HZ4.out.lt)
    have Hb5 : Hid (Below w.heap.size w w5) := Hb4.out.trans (hb5.mono (by have := HZ4.out.lt; omega))
    clear k0 k1 z9 hb5 HG4 HZ4 Hb4
    have k0 := HG5.out.cellAt 0 _ rfl
    have k1 := HG5.out.cellAt 1 _ rfl
    have z9 := HZ5.out.lt
    go_wp2_with fail
    refine (C2.out w5 Hb5.out).mono ?_
    rintro e w6 ⟨rfl, hb6⟩
    have HG6 := Lib.hid (HG5.out.below hb6 (by have := HZ5.out.lt; omega))
    have HZ6 := Lib.hid (HZ5.out.below hb6 HZ5.out.lt)
    have Hb6 : Hid (Below w.heap.size w w6) := Hb5.out.trans (hb6.mono (by have := HZ5.out.lt; omega))
    clear k0 k1 z9 hb6 HG5 HZ5 Hb5
    have k0 := HG6.out.cellAt 0 _ rfl
    have k1 := HG6.out.cellAt 1 _ rfl
    have z9 := HZ6.out.lt
    have x0 := HZ6.out.cellAt 0 _ rfl
    have x1 : (w6.setCell ⟨w.heap.size + 1, 0, none⟩ (.int .i64 0)).cell? ⟨w.heap.size + 1, 1, none⟩ = some (.slice none 0 0) := (sc_other (by simp)).trans (HZ6.out.cellAt 1 _ rfl)
    have f0 := HZ6.out.frozen 0
    have f1 := HZ6.out.frozen 1
    go_wp2
    refine ret_cell_tmp Try.results13 Try.underlying28 rfl (by kernel_rfl) rfl ((HZ6.out.set_ 0 (.int .i64 0)).set_ 1 (.slice none 0 0)) rfl rfl ⟨⟨none, 0, rfl, FrE.nil⟩, (Hb6.out.setCell (by show w.heap.size ≤ w.heap.size + 1; omega) _).setCell (by show w.heap.size ≤ w.heap.size + 1; omega) _⟩
  · have g2 : (a == b) = false := by simpa using h1
    have g3 : (a == d) = false := by simpa using h2
    have g4 : (b == d) = false := by simpa using h3
    have g5 : ((j1 : Int) != 1) = false := by simp; omega
    have g6 : ((j2 : Int) != 1) = false := by simp; omega
    have g7 : ((j3 : Int) != 1) = true := by simp; omega
    clear h1 h2 h3 h4 h5 h6
    have k0 := HG4.out.cellAt 0 _ rfl
    have k1 := HG4.out.cellAt 1 _ rfl
    have z9 := HZ4.out.lt
    go_wp2_with fail
    refine (C1.out w4 Hb4.out).mono ?_
    rintro e w5 ⟨rfl, hb5⟩
    have HG5 := Lib.hid (HG4.out.below hb5 (by have := HZ4.out.lt; omega))
    have HZ5 := Lib.hid (HZ4.out.below hb5 HZ4.out.lt)
    have Hb5 : Hid (Below w.heap.size w w5) := Hb4.out.trans (hb5.mono (by have := HZ4.out.lt; omega))
    clear k0 k1 z9 hb5 HG4 HZ4 Hb4
    have k0 := HG5.out.cellAt 0 _ rfl
    have k1 := HG5.out.cellAt 1 _ rfl
    have z9 := HZ5.out.lt
    go_wp2_with fail
    refine (C2.out w5 Hb5.out).mono ?_
    rintro e w6 ⟨rfl, hb6⟩
    have HG6 := Lib.hid (HG5.out.below hb6 (by have := HZ5.out.lt; omega))
    have HZ6 := Lib.hid (HZ5.out.below hb6 HZ5.out.lt)
    have Hb6 : Hid (Below w.heap.size w w6) := Hb5.out.trans (hb6.mono (by have := HZ5.out.lt; omega))
    clear k0 k1 z9 hb6 HG5 HZ5 Hb5
    have k0 := HG6.out.cellAt 0 _ rfl
    have k1 := HG6.out.cellAt 1 _ rfl
    have z9 := HZ6.out.lt
    go_wp2_with fail
    refine (C3.out w6 Hb6.out).mono ?_
    rintro e w7 ⟨rfl, hb7⟩
    have HG7 := Lib.hid (HG6.out.below hb7 (by have := HZ6.out.lt; omega))
    have HZ7 := Lib.hid (HZ6.out.below hb7 HZ6.out.lt)
    have Hb7 : Hid (Below w.heap.size w w7) := Hb6.out.trans (hb7.mono (by have := HZ6.out.lt; omega))
    clear k0 k1 z9 hb7 HG6 HZ6 Hb6
    have k0 := HG7.out.cellAt 0 _ rfl
    have k1 := HG7.out.cellAt 1 _ rfl
    have z9 := HZ7.out.lt
    have x0 := HZ7.out.cellAt 0 _ rfl
    have x1 : (w7.setCell ⟨w.heap.size + 1, 0, none⟩ (.int .i64 0)).cell? ⟨w.heap.size + 1, 1, none⟩ = some (.slice none 0 0) := (sc_other (by simp)).trans (HZ7.out.cellAt 1 _ rfl)
    have f0 := HZ7.out.frozen 0
    have f1 := HZ7.out.frozen 1
    go_wp2
    refine ret_cell_tmp Try.results13 Try.underlying28 rfl (by kernel_rfl) rfl ((HZ7.out.set_ 0 (.int .i64 0)).set_ 1 (.slice none 0 0)) rfl rfl ⟨⟨none, 0, rfl, FrE.nil⟩, (Hb7.out.setCell (by show w.heap.size ≤ w.heap.size + 1; omega) _).setCell (by show w.heap.size ≤ w.heap.size + 1; omega) _⟩
end Go.Proofs.Ytjgmoffkecnmcaa
