/- The genus of a rotation: the program's and the reference's answers. No statement of the program is proved here. -/
import Derived.Test.YtigdfcigoejjjaaGe1
import Derived.Test.YtigdfcigoejjjaaCn5
namespace Go.Proofs.Ytigdfcigoejjjaa
open Go.RowKit
set_option linter.unusedSimpArgs false
set_option linter.unusedVariables false
set_option maxRecDepth 20000

set_option maxHeartbeats 2000000 in
theorem l07Rotation_b (n : Int) (A : Option Addr) (c : Nat) (es : List (Int × Int)) (B : Option Addr) (cb : Nat) (rot : List Int) (w : World) (qg qs : Bool) (hg : Hid (isGraphB n es = qg)) (hs : Hid (rotB n rot = qs))
    (hl : es.length ≤ 1048576) (hlx : rot.length ≤ 1048576) (hr : RdE w A es) (hx : RdI w B rot) :
    Calls Try.prog 33 #[.agg #[.int .i64 n, .slice A es.length c], .slice B rot.length cb] w fun e w' => e = .returned (.int .i64 (gcode qg qs)) ∧ Below w.heap.size w w' := by
  have cg := fun W (hW : Below w.heap.size w W) => l01Is_b n A c es W qg hg hl (hr.below hW)
  cases qg
  · clear hr hx hg hs
    generalize es.length = L at *
    generalize rot.length = M at *
    go_enter Try.func33, Try.ntmps33
    go_wp2_with fail
    refine (cg _ (by (repeat' (first | (with_reducible exact Below.refl _ _) | (with_reducible assumption) | (with_reducible refine Below.alloc ?_ ?_ _) | (with_reducible refine Below.drew ?_) | (with_reducible refine below_drewN ?_ _) | (with_reducible refine Below.setCell ?_ ?_ _) | (with_reducible refine Below.trans ?_ (Below.mono (by assumption) ?_)) | (first | omega | (simp only [World.size_alloc, World.size_setCell, World.size_drew]; omega) | (simp; omega) | (simp; done)))))).mono ?_
    rintro e w1 ⟨rfl, hb1⟩
    go_wp2
    go_ret
    exact ⟨by cases qs <;> rfl, by (repeat' (first | (with_reducible exact Below.refl _ _) | (with_reducible assumption) | (with_reducible refine Below.alloc ?_ ?_ _) | (with_reducible refine Below.drew ?_) | (with_reducible refine below_drewN ?_ _) | (with_reducible refine Below.setCell ?_ ?_ _) | (with_reducible refine Below.trans ?_ (Below.mono (by assumption) ?_)) | (first | omega | (simp only [World.size_alloc, World.size_setCell, World.size_drew]; omega) | (simp; omega) | (simp; done))))⟩
  · have hs2 := hs.out
    by_cases hlm : (rot.length : Int) = n
    · have hall : Hid (rot.all (fun x => inB x 0 1) = qs) := by show _ = _; rw [← hs2, rotB]; simp [hlm]
      have e0 : ((rot.length : Int) != n) = false := by simpa using hlm
      have Hx := Lib.hid fun W (hW : Below w.heap.size w W) => hx.below hW
      clear hr hx hg hs hs2 hlm
      obtain ⟨M, HM⟩ : ∃ M, Hid (rot.length = M) := ⟨_, rfl⟩
      rw [HM.out] at hlx e0 ⊢
      generalize es.length = L at *
      go_enter Try.func33, Try.ntmps33
      go_wp2_with fail
      refine (cg _ (by (repeat' (first | (with_reducible exact Below.refl _ _) | (with_reducible assumption) | (with_reducible refine Below.alloc ?_ ?_ _) | (with_reducible refine Below.drew ?_) | (with_reducible refine below_drewN ?_ _) | (with_reducible refine Below.setCell ?_ ?_ _) | (with_reducible refine Below.trans ?_ (Below.mono (by assumption) ?_)) | (first | omega | (simp only [World.size_alloc, World.size_setCell, World.size_drew]; omega) | (simp; omega) | (simp; done)))))).mono ?_
      rintro e w1 ⟨rfl, hb1⟩
      simp only [World.size_alloc, World.size_setCell, World.size_drew] at hb1; have B1 : Below w.heap.size w w1 := by (repeat' (first | (with_reducible exact Below.refl _ _) | (with_reducible assumption) | (with_reducible refine Below.alloc ?_ ?_ _) | (with_reducible refine Below.drew ?_) | (with_reducible refine below_drewN ?_ _) | (with_reducible refine Below.setCell ?_ ?_ _) | (with_reducible refine Below.trans ?_ (Below.mono (by assumption) ?_)) | (first | omega | (simp only [World.size_alloc, World.size_setCell, World.size_drew]; omega) | (simp; omega) | (simp; done))))
      have K1 : Blk w1 w.heap.size 32 #[.int .i64 n, .slice A L c] := (Blk.new' _ rfl).below hb1 (by omega)
      have d10 := K1.cellAt 0 _ rfl; have d11 := K1.cellAt 1 _ rfl; have z1 := hb1.size; simp only [World.size_alloc, World.size_setCell, World.size_drew] at z1
      have HB1 := Lib.hid B1
      have HX1 := Lib.hid (Hx.out w1 B1)
      go_wp2
      go_loopw [5] (fun i wr => ∃ k : Nat, k ≤ M ∧ i = .int .i64 k ∧ Hid (∀ j, j < k → inB (rot.getD j 0) 0 1 = true) ∧ w1 = wr) (fun i _ => M - (intOf i).toNat)
      case atStart => exact ⟨0, Nat.zero_le _, rfl, fun j hj => by omega, rfl⟩
      case round =>
        obtain ⟨k, hk, rfl, Hin, rfl⟩ := hrel
        by_cases hlt : k < M
        · obtain ⟨ek, ek2, ek3⟩ := idxF k M hlt
          obtain ⟨b, off, rfl, hb, hc⟩ := HX1.out.pos (by rw [HM.out]; omega)
          have hck := hc k (by rw [HM.out]; exact hlt)
          obtain ⟨x, Hxk⟩ : ∃ x, Hid (rot.getD k 0 = x) := ⟨_, rfl⟩
          rw [Hxk.out] at hck
          clear hc
          obtain ⟨q1, Hq1⟩ : ∃ q, Hid (inB x 0 1 = q) := ⟨_, rfl⟩
          have ci := Lib.hid fun W => l01In_b x 0 1 W q1 Hq1
          cases q1
          · have Hf : Hid (qs = false) := by
              show _ = _
              rw [← hall.out, List.all_eq_false]
              refine ⟨rot.getD k 0, ?_, by rw [Hxk.out, Hq1.out]; decide⟩
              have : k < rot.length := by rw [HM.out]; exact hlt
              simp [List.getD, this]
            go_wp2_with fail
            refine (ci.out _).mono ?_
            rintro e w2 ⟨rfl, rfl⟩
            go_wp2
            go_ret
            exact ⟨by rw [Hf.out]; rfl, HB1.out⟩
          · have Hin2 : Hid (∀ j, j < k + 1 → inB (rot.getD j 0) 0 1 = true) := fun j hj => by
              by_cases e : j = k
              · subst e; rw [Hxk.out]; exact Hq1.out
              · exact Hin.out j (by omega)
            go_wp2_with fail
            refine (ci.out _).mono ?_
            rintro e w2 ⟨rfl, rfl⟩
            go_wp2
            exact ⟨⟨k + 1, by omega, by go_num, Hin2, trivial⟩, by simp [intOf]; omega⟩
        · obtain rfl : M = k := by omega
          have Hf : Hid (qs = true) := by
            show _ = _
            rw [← hall.out, List.all_eq_true]
            intro x hxm
            obtain ⟨j, hj, rfl⟩ := List.getElem_of_mem hxm
            have := Hin.out j (by rw [← HM.out]; exact hj)
            simpa [List.getD, hj] using this
          go_wp2
          go_ret
          exact ⟨by rw [Hf.out]; rfl, HB1.out⟩
    · have e0 : ((rot.length : Int) != n) = true := by simpa using hlm
      obtain rfl : false = qs := by rw [← hs2, rotB]; simp [hlm]
      clear hr hx hg hs hs2 hlm
      generalize es.length = L at *
      generalize rot.length = M at *
      go_enter Try.func33, Try.ntmps33
      go_wp2_with fail
      refine (cg _ (by (repeat' (first | (with_reducible exact Below.refl _ _) | (with_reducible assumption) | (with_reducible refine Below.alloc ?_ ?_ _) | (with_reducible refine Below.drew ?_) | (with_reducible refine below_drewN ?_ _) | (with_reducible refine Below.setCell ?_ ?_ _) | (with_reducible refine Below.trans ?_ (Below.mono (by assumption) ?_)) | (first | omega | (simp only [World.size_alloc, World.size_setCell, World.size_drew]; omega) | (simp; omega) | (simp; done)))))).mono ?_
      rintro e w1 ⟨rfl, hb1⟩
      simp only [World.size_alloc, World.size_setCell, World.size_drew] at hb1; have B1 : Below w.heap.size w w1 := by (repeat' (first | (with_reducible exact Below.refl _ _) | (with_reducible assumption) | (with_reducible refine Below.alloc ?_ ?_ _) | (with_reducible refine Below.drew ?_) | (with_reducible refine below_drewN ?_ _) | (with_reducible refine Below.setCell ?_ ?_ _) | (with_reducible refine Below.trans ?_ (Below.mono (by assumption) ?_)) | (first | omega | (simp only [World.size_alloc, World.size_setCell, World.size_drew]; omega) | (simp; omega) | (simp; done))))
      have K1 : Blk w1 w.heap.size 32 #[.int .i64 n, .slice A L c] := (Blk.new' _ rfl).below hb1 (by omega)
      have d10 := K1.cellAt 0 _ rfl; have d11 := K1.cellAt 1 _ rfl; have z1 := hb1.size; simp only [World.size_alloc, World.size_setCell, World.size_drew] at z1
      go_wp2
      go_ret
      exact ⟨rfl, B1⟩
/-- Whether a graph has one part. -/
noncomputable def connB (n : Int) (es : List (Int × Int)) : Bool := decide (partsN es allP n.toNat = 1)
/-- What GenusOfRotation returns. -/
noncomputable def geOf (n : Int) (es : List (Int × Int)) (rot : List Int) : Int × Int :=
  (if isGraphB n es && (rotB n rot && connB n es) then genV n es rot else 0, if isGraphB n es && (rotB n rot && !connB n es) then 5 else gcode (isGraphB n es) (rotB n rot))
theorem conn_spec (n : Int) (A : Option Addr) (c : Nat) (es : List (Int × Int)) (w : World) (q : Bool) (hg : isGraphB n es = true) (hq : Hid (connB n es = q)) (hr : RdE w A es) :
    Calls Try.prog 41 #[.agg #[.int .i64 n, .slice A es.length c]] w fun e w' => e = .returned (.bool q) ∧ Below w.heap.size w w' := by
  have hn := isGraphB_n hg
  have h := l01Connected_b n.toNat A c es w q hq (by omega) (by have := isGraphB_len hg; omega) (isGraphB_in hg) hr
  rwa [show (n.toNat : Int) = n by omega] at h
theorem conn_impl (n : Int) (A : Option Addr) (c : Nat) (es : List (Int × Int)) (w : World) (q : Bool) (hg : isGraphB n es = true) (hq : Hid (connB n es = q)) (hr : RdE w A es) :
    Calls Try.prog 43 #[.agg #[.int .i64 n, .slice A es.length c]] w fun e w' => e = .returned (.bool q) ∧ Below w.heap.size w w' := by
  have hn := isGraphB_n hg
  have h := isConnected_b n.toNat A c es w q hq (by omega) (by have := isGraphB_len hg; omega) (isGraphB_in hg) hr
  rwa [show (n.toNat : Int) = n by omega] at h
set_option maxHeartbeats 4000000 in
theorem implGe_b (n : Int) (A : Option Addr) (c : Nat) (es : List (Int × Int)) (B : Option Addr) (cb : Nat) (rot : List Int) (w : World) (hl : es.length ≤ 1048576) (hlx : rot.length ≤ 1048576) (hr : RdE w A es) (hx : RdI w B rot) (r v : Int) (Hr : Hid ((geOf n es rot).1 = r)) (Hv : Hid ((geOf n es rot).2 = v)) :
    Calls Try.prog 22 #[.agg #[.int .i64 n, .slice A es.length c], .slice B rot.length cb] w fun e w' => e = .returned (.tuple #[.int .i64 r, .int .i64 v]) ∧ Below w.heap.size w w' := by
  obtain ⟨qg, hg⟩ : ∃ q, Hid (isGraphB n es = q) := ⟨_, rfl⟩
  obtain ⟨qs, hs⟩ : ∃ q, Hid (rotB n rot = q) := ⟨_, rfl⟩
  obtain ⟨qc, hc⟩ : ∃ q, Hid (connB n es = q) := ⟨_, rfl⟩
  have cr := Lib.hid fun W (hW : Below w.heap.size w W) => isRotation_b n A es.length c B cb rot W qs hs hlx (hx.below hW)
  have cg := Lib.hid fun W (hW : Below w.heap.size w W) => graphCode_b n A c es W qg qs hg hl (hr.below hW)
  have hr1 := Hr.out
  have hv1 := Hv.out
  rw [geOf, hg.out, hs.out, hc.out] at hr1 hv1
  by_cases hall : qg = true ∧ qs = true
  · obtain ⟨rfl, rfl⟩ := hall
    have hlen := isGraphB_len hg.out
    have cc := Lib.hid fun W (hW : Below w.heap.size w W) => conn_impl n A c es W qc hg.out hc (hr.below hW)
    have cf := Lib.hid fun W (hW : Below w.heap.size w W) => genus_b n A c es B cb rot W hg.out (rotB_is hs.out) (by omega) (hr.below hW) (hx.below hW)
    clear hr hx hg hs hc Hr Hv
    generalize es.length = L at *
    generalize rot.length = M at *
    have hgc : gcode true true = 0 := rfl
    rw [hgc] at cg
    cases qc
    · simp at hr1 hv1
      subst hr1; subst hv1
      go_enter Try.func22, Try.ntmps22
      go_wp2
      refine wp_region_noPanic ?_
      refine wp_region_held_drew (S := (fun w' => w'.cell? ⟨w.heap.size, 0, none⟩ = some (.int .i64 n) ∧ w'.cell? ⟨w.heap.size, 1, none⟩ = some (.slice A L c))) (by kernel_rfl) ?_ (fun hHeld => ?_)
      · (try dsimp only); (first | go_keep | (obtain ⟨hq, _⟩ := bcell ‹Below _ _ _›; (repeat' apply And.intro) <;> (rw [hq _ _ (by first | assumption | omega | (simp; done) | (simp; omega) | (simp; assumption))] <;> (first | assumption | (simp [*]; done)))))
      refine wpAnyH_take_d (i := 0) (d := some 7) (v := ?v1) rfl rfl (by kernel_rfl) (by kernel_rfl) (by kernel_rfl) (fun _ _ _ h => h) (Or.inl ⟨by kernel_rfl, ?y1⟩) (by assumption) ?_
      case y1 => (intro w' hSw; (try dsimp only at hSw); go_simp; try with_reducible rfl)
      try simp only [Act.put, List.setIfInBounds_toArray, List.set_cons_zero, List.set_cons_succ]
      refine wpAnyH_take_d (i := 1) (d := some 8) (v := ?v2) rfl rfl (by kernel_rfl) (by kernel_rfl) (by kernel_rfl) (fun _ _ _ h => h) (Or.inl ⟨by kernel_rfl, ?y2⟩) (by assumption) ?_
      case y2 => (intro w' hSw; (try dsimp only at hSw); go_simp; try with_reducible rfl)
      try simp only [Act.put, List.setIfInBounds_toArray, List.set_cons_zero, List.set_cons_succ]
      refine wpAnyH_take_d (i := 2) (d := some 9) (v := ?v3) rfl rfl (by kernel_rfl) (by kernel_rfl) (by kernel_rfl) (fun _ _ _ h => h) (Or.inl ⟨by kernel_rfl, ?y3⟩) (by assumption) ?_
      case y3 => (intro w' hSw; (try dsimp only at hSw); go_simp; try with_reducible rfl)
      try simp only [Act.put, List.setIfInBounds_toArray, List.set_cons_zero, List.set_cons_succ]
      refine wpAnyH_ready (rs := [3]) (by kernel_rfl) (by simp) ?_
      refine AllReadyH.cons rfl (fun K hK => ?_) AllReadyH.nil
      go_simp
      refine (cr.out _ (by (repeat' (first | (with_reducible exact Below.refl _ _) | (with_reducible assumption) | (with_reducible refine Below.alloc ?_ ?_ _) | (with_reducible refine Below.drew ?_) | (with_reducible refine below_drewN ?_ _) | (with_reducible refine Below.setCell ?_ ?_ _) | (with_reducible refine Below.trans ?_ (Below.mono (by assumption) ?_)) | (first | omega | (simp only [World.size_alloc, World.size_setCell, World.size_drew]; omega) | (simp; omega) | (simp; done)))))).mono ?_; rintro e w1 ⟨rfl, hb1⟩; have z1 := hb1.size; (try simp only [World.size_alloc, World.size_setCell, World.size_drew] at z1)
      refine hK.out _ _ ?s4 (fun hHeld4 => ?_)
      case s4 => ((try dsimp only); (first | go_keep | (obtain ⟨hq, _⟩ := bcell ‹Below _ _ _›; (repeat' apply And.intro) <;> (rw [hq _ _ (by first | assumption | omega | (simp; done) | (simp; omega) | (simp; assumption))] <;> (first | assumption | (simp [*]; done))))))
      clear hK K hHeld
      have hHeld := hHeld4; clear hHeld4
      try simp only [Act.put, List.setIfInBounds_toArray, List.set_cons_zero, List.set_cons_succ]
      refine wpAnyH_ready (rs := [4]) (by kernel_rfl) (by simp) ?_
      refine AllReadyH.cons rfl (fun K hK => ?_) AllReadyH.nil
      go_simp
      refine (cg.out _ (by (repeat' (first | (with_reducible exact Below.refl _ _) | (with_reducible assumption) | (with_reducible refine Below.alloc ?_ ?_ _) | (with_reducible refine Below.drew ?_) | (with_reducible refine below_drewN ?_ _) | (with_reducible refine Below.setCell ?_ ?_ _) | (with_reducible refine Below.trans ?_ (Below.mono (by assumption) ?_)) | (first | omega | (simp only [World.size_alloc, World.size_setCell, World.size_drew]; omega) | (simp; omega) | (simp; done)))))).mono ?_; rintro e w2 ⟨rfl, hb2⟩; have z2 := hb2.size; (try simp only [World.size_alloc, World.size_setCell, World.size_drew] at z2)
      refine hK.out _ _ ?s5 (fun hHeld5 => ?_)
      case s5 => ((try dsimp only); (first | go_keep | (obtain ⟨hq, _⟩ := bcell ‹Below _ _ _›; (repeat' apply And.intro) <;> (rw [hq _ _ (by first | assumption | omega | (simp; done) | (simp; omega) | (simp; assumption))] <;> (first | assumption | (simp [*]; done))))))
      clear hK K hHeld
      have hHeld := hHeld5; clear hHeld5
      try simp only [Act.put, List.setIfInBounds_toArray, List.set_cons_zero, List.set_cons_succ]
      refine wpAnyH_take_d (i := 5) (d := some 6) (v := ?v6) rfl rfl (by kernel_rfl) (by kernel_rfl) (by kernel_rfl) (fun _ _ _ h => h) (Or.inl ⟨by kernel_rfl, ?y6⟩) (by assumption) ?_
      case y6 => (intro w' hSw; (try dsimp only at hSw); go_simp; try with_reducible rfl)
      try simp only [Act.put, List.setIfInBounds_toArray, List.set_cons_zero, List.set_cons_succ]
      refine wpAnyH_done (by kernel_rfl) ?_ _
      refine NoPanic.normal ?_
      clear hHeld
      have B1 : Below w.heap.size w w2 := by (repeat' (first | (with_reducible exact Below.refl _ _) | (with_reducible assumption) | (with_reducible refine Below.alloc ?_ ?_ _) | (with_reducible refine Below.drew ?_) | (with_reducible refine below_drewN ?_ _) | (with_reducible refine Below.setCell ?_ ?_ _) | (with_reducible refine Below.trans ?_ (Below.mono (by assumption) ?_)) | (first | omega | (simp only [World.size_alloc, World.size_setCell, World.size_drew]; omega) | (simp; omega) | (simp; done))))
      have K1 : Blk w2 w.heap.size 32 #[.int .i64 n, .slice A L c] := (((Blk.new w _ _).drew.below hb1 (by (try simp only [World.size_alloc, World.size_drew]); omega))).below hb2 (by omega)
      have k0 := K1.cellAt 0 _ rfl
      have k1 := K1.cellAt 1 _ rfl
      have hwl := K1.lt
      clear hb1 hb2
      go_wp2_with fail
      refine (cc.out _ B1).mono ?_
      rintro e w3 ⟨rfl, hb3⟩
      go_wp2
      go_ret2
      exact ⟨rfl, B1.trans (hb3.mono B1.size)⟩
    · simp at hr1 hv1
      rw [hgc] at hv1
      subst hr1; subst hv1
      go_enter Try.func22, Try.ntmps22
      go_wp2
      refine wp_region_noPanic ?_
      refine wp_region_held_drew (S := (fun w' => w'.cell? ⟨w.heap.size, 0, none⟩ = some (.int .i64 n) ∧ w'.cell? ⟨w.heap.size, 1, none⟩ = some (.slice A L c))) (by kernel_rfl) ?_ (fun hHeld => ?_)
      · (try dsimp only); (first | go_keep | (obtain ⟨hq, _⟩ := bcell ‹Below _ _ _›; (repeat' apply And.intro) <;> (rw [hq _ _ (by first | assumption | omega | (simp; done) | (simp; omega) | (simp; assumption))] <;> (first | assumption | (simp [*]; done)))))
      refine wpAnyH_take_d (i := 0) (d := some 7) (v := ?v7) rfl rfl (by kernel_rfl) (by kernel_rfl) (by kernel_rfl) (fun _ _ _ h => h) (Or.inl ⟨by kernel_rfl, ?y7⟩) (by assumption) ?_
      case y7 => (intro w' hSw; (try dsimp only at hSw); go_simp; try with_reducible rfl)
      try simp only [Act.put, List.setIfInBounds_toArray, List.set_cons_zero, List.set_cons_succ]
      refine wpAnyH_take_d (i := 1) (d := some 8) (v := ?v8) rfl rfl (by kernel_rfl) (by kernel_rfl) (by kernel_rfl) (fun _ _ _ h => h) (Or.inl ⟨by kernel_rfl, ?y8⟩) (by assumption) ?_
      case y8 => (intro w' hSw; (try dsimp only at hSw); go_simp; try with_reducible rfl)
      try simp only [Act.put, List.setIfInBounds_toArray, List.set_cons_zero, List.set_cons_succ]
      refine wpAnyH_take_d (i := 2) (d := some 9) (v := ?v9) rfl rfl (by kernel_rfl) (by kernel_rfl) (by kernel_rfl) (fun _ _ _ h => h) (Or.inl ⟨by kernel_rfl, ?y9⟩) (by assumption) ?_
      case y9 => (intro w' hSw; (try dsimp only at hSw); go_simp; try with_reducible rfl)
      try simp only [Act.put, List.setIfInBounds_toArray, List.set_cons_zero, List.set_cons_succ]
      refine wpAnyH_ready (rs := [3]) (by kernel_rfl) (by simp) ?_
      refine AllReadyH.cons rfl (fun K hK => ?_) AllReadyH.nil
      go_simp
      refine (cr.out _ (by (repeat' (first | (with_reducible exact Below.refl _ _) | (with_reducible assumption) | (with_reducible refine Below.alloc ?_ ?_ _) | (with_reducible refine Below.drew ?_) | (with_reducible refine below_drewN ?_ _) | (with_reducible refine Below.setCell ?_ ?_ _) | (with_reducible refine Below.trans ?_ (Below.mono (by assumption) ?_)) | (first | omega | (simp only [World.size_alloc, World.size_setCell, World.size_drew]; omega) | (simp; omega) | (simp; done)))))).mono ?_; rintro e w1 ⟨rfl, hb1⟩; have z1 := hb1.size; (try simp only [World.size_alloc, World.size_setCell, World.size_drew] at z1)
      refine hK.out _ _ ?s10 (fun hHeld10 => ?_)
      case s10 => ((try dsimp only); (first | go_keep | (obtain ⟨hq, _⟩ := bcell ‹Below _ _ _›; (repeat' apply And.intro) <;> (rw [hq _ _ (by first | assumption | omega | (simp; done) | (simp; omega) | (simp; assumption))] <;> (first | assumption | (simp [*]; done))))))
      clear hK K hHeld
      have hHeld := hHeld10; clear hHeld10
      try simp only [Act.put, List.setIfInBounds_toArray, List.set_cons_zero, List.set_cons_succ]
      refine wpAnyH_ready (rs := [4]) (by kernel_rfl) (by simp) ?_
      refine AllReadyH.cons rfl (fun K hK => ?_) AllReadyH.nil
      go_simp
      refine (cg.out _ (by (repeat' (first | (with_reducible exact Below.refl _ _) | (with_reducible assumption) | (with_reducible refine Below.alloc ?_ ?_ _) | (with_reducible refine Below.drew ?_) | (with_reducible refine below_drewN ?_ _) | (with_reducible refine Below.setCell ?_ ?_ _) | (with_reducible refine Below.trans ?_ (Below.mono (by assumption) ?_)) | (first | omega | (simp only [World.size_alloc, World.size_setCell, World.size_drew]; omega) | (simp; omega) | (simp; done)))))).mono ?_; rintro e w2 ⟨rfl, hb2⟩; have z2 := hb2.size; (try simp only [World.size_alloc, World.size_setCell, World.size_drew] at z2)
      refine hK.out _ _ ?s11 (fun hHeld11 => ?_)
      case s11 => ((try dsimp only); (first | go_keep | (obtain ⟨hq, _⟩ := bcell ‹Below _ _ _›; (repeat' apply And.intro) <;> (rw [hq _ _ (by first | assumption | omega | (simp; done) | (simp; omega) | (simp; assumption))] <;> (first | assumption | (simp [*]; done))))))
      clear hK K hHeld
      have hHeld := hHeld11; clear hHeld11
      try simp only [Act.put, List.setIfInBounds_toArray, List.set_cons_zero, List.set_cons_succ]
      refine wpAnyH_take_d (i := 5) (d := some 6) (v := ?v12) rfl rfl (by kernel_rfl) (by kernel_rfl) (by kernel_rfl) (fun _ _ _ h => h) (Or.inl ⟨by kernel_rfl, ?y12⟩) (by assumption) ?_
      case y12 => (intro w' hSw; (try dsimp only at hSw); go_simp; try with_reducible rfl)
      try simp only [Act.put, List.setIfInBounds_toArray, List.set_cons_zero, List.set_cons_succ]
      refine wpAnyH_done (by kernel_rfl) ?_ _
      refine NoPanic.normal ?_
      clear hHeld
      have B1 : Below w.heap.size w w2 := by (repeat' (first | (with_reducible exact Below.refl _ _) | (with_reducible assumption) | (with_reducible refine Below.alloc ?_ ?_ _) | (with_reducible refine Below.drew ?_) | (with_reducible refine below_drewN ?_ _) | (with_reducible refine Below.setCell ?_ ?_ _) | (with_reducible refine Below.trans ?_ (Below.mono (by assumption) ?_)) | (first | omega | (simp only [World.size_alloc, World.size_setCell, World.size_drew]; omega) | (simp; omega) | (simp; done))))
      have K1 : Blk w2 w.heap.size 32 #[.int .i64 n, .slice A L c] := (((Blk.new w _ _).drew.below hb1 (by (try simp only [World.size_alloc, World.size_drew]); omega))).below hb2 (by omega)
      have k0 := K1.cellAt 0 _ rfl
      have k1 := K1.cellAt 1 _ rfl
      have hwl := K1.lt
      clear hb1 hb2
      go_wp2_with fail
      refine (cc.out _ B1).mono ?_
      rintro e w3 ⟨rfl, hb3⟩
      have B3 := B1.trans (hb3.mono B1.size)
      have K3 := K1.below hb3 hwl
      have k30 := K3.cellAt 0 _ rfl
      have k31 := K3.cellAt 1 _ rfl
      go_wp2_with fail
      refine (cf.out _ B3).mono ?_
      rintro e w4 ⟨rfl, hb4⟩
      go_wp2
      go_ret2
      exact ⟨rfl, B3.trans (hb4.mono B3.size)⟩
  · have g0 : v = gcode qg qs ∧ r = 0 := by
      cases qg <;> cases qs <;> simp_all
    obtain ⟨rfl, rfl⟩ := g0
    obtain ⟨v, Hv9⟩ : ∃ v, Hid (gcode qg qs = v) := ⟨_, rfl⟩
    have g1 : (v != 0) = true := by
      have := Hv9.out
      cases qg <;> cases qs <;> simp_all [gcode]
      all_goals (subst this; decide)
    have g2 : (v == 0) = false := by simpa using g1
    rw [Hv9.out] at cg ⊢
    clear hr hg hx hs hc Hr Hv hall hr1 hv1
    generalize es.length = L at *
    generalize rot.length = M at *
    go_enter Try.func22, Try.ntmps22
    go_wp2
    refine wp_region_noPanic ?_
    refine wp_region_held_drew (S := (fun w' => w'.cell? ⟨w.heap.size, 0, none⟩ = some (.int .i64 n) ∧ w'.cell? ⟨w.heap.size, 1, none⟩ = some (.slice A L c))) (by kernel_rfl) ?_ (fun hHeld => ?_)
    · (try dsimp only); (first | go_keep | (obtain ⟨hq, _⟩ := bcell ‹Below _ _ _›; (repeat' apply And.intro) <;> (rw [hq _ _ (by first | assumption | omega | (simp; done) | (simp; omega) | (simp; assumption))] <;> (first | assumption | (simp [*]; done)))))
    refine wpAnyH_take_d (i := 0) (d := some 7) (v := ?v13) rfl rfl (by kernel_rfl) (by kernel_rfl) (by kernel_rfl) (fun _ _ _ h => h) (Or.inl ⟨by kernel_rfl, ?y13⟩) (by assumption) ?_
    case y13 => (intro w' hSw; (try dsimp only at hSw); go_simp; try with_reducible rfl)
    try simp only [Act.put, List.setIfInBounds_toArray, List.set_cons_zero, List.set_cons_succ]
    refine wpAnyH_take_d (i := 1) (d := some 8) (v := ?v14) rfl rfl (by kernel_rfl) (by kernel_rfl) (by kernel_rfl) (fun _ _ _ h => h) (Or.inl ⟨by kernel_rfl, ?y14⟩) (by assumption) ?_
    case y14 => (intro w' hSw; (try dsimp only at hSw); go_simp; try with_reducible rfl)
    try simp only [Act.put, List.setIfInBounds_toArray, List.set_cons_zero, List.set_cons_succ]
    refine wpAnyH_take_d (i := 2) (d := some 9) (v := ?v15) rfl rfl (by kernel_rfl) (by kernel_rfl) (by kernel_rfl) (fun _ _ _ h => h) (Or.inl ⟨by kernel_rfl, ?y15⟩) (by assumption) ?_
    case y15 => (intro w' hSw; (try dsimp only at hSw); go_simp; try with_reducible rfl)
    try simp only [Act.put, List.setIfInBounds_toArray, List.set_cons_zero, List.set_cons_succ]
    refine wpAnyH_ready (rs := [3]) (by kernel_rfl) (by simp) ?_
    refine AllReadyH.cons rfl (fun K hK => ?_) AllReadyH.nil
    go_simp
    refine (cr.out _ (by (repeat' (first | (with_reducible exact Below.refl _ _) | (with_reducible assumption) | (with_reducible refine Below.alloc ?_ ?_ _) | (with_reducible refine Below.drew ?_) | (with_reducible refine below_drewN ?_ _) | (with_reducible refine Below.setCell ?_ ?_ _) | (with_reducible refine Below.trans ?_ (Below.mono (by assumption) ?_)) | (first | omega | (simp only [World.size_alloc, World.size_setCell, World.size_drew]; omega) | (simp; omega) | (simp; done)))))).mono ?_; rintro e w1 ⟨rfl, hb1⟩; have z1 := hb1.size; (try simp only [World.size_alloc, World.size_setCell, World.size_drew] at z1)
    refine hK.out _ _ ?s16 (fun hHeld16 => ?_)
    case s16 => ((try dsimp only); (first | go_keep | (obtain ⟨hq, _⟩ := bcell ‹Below _ _ _›; (repeat' apply And.intro) <;> (rw [hq _ _ (by first | assumption | omega | (simp; done) | (simp; omega) | (simp; assumption))] <;> (first | assumption | (simp [*]; done))))))
    clear hK K hHeld
    have hHeld := hHeld16; clear hHeld16
    try simp only [Act.put, List.setIfInBounds_toArray, List.set_cons_zero, List.set_cons_succ]
    refine wpAnyH_ready (rs := [4]) (by kernel_rfl) (by simp) ?_
    refine AllReadyH.cons rfl (fun K hK => ?_) AllReadyH.nil
    go_simp
    refine (cg.out _ (by (repeat' (first | (with_reducible exact Below.refl _ _) | (with_reducible assumption) | (with_reducible refine Below.alloc ?_ ?_ _) | (with_reducible refine Below.drew ?_) | (with_reducible refine below_drewN ?_ _) | (with_reducible refine Below.setCell ?_ ?_ _) | (with_reducible refine Below.trans ?_ (Below.mono (by assumption) ?_)) | (first | omega | (simp only [World.size_alloc, World.size_setCell, World.size_drew]; omega) | (simp; omega) | (simp; done)))))).mono ?_; rintro e w2 ⟨rfl, hb2⟩; have z2 := hb2.size; (try simp only [World.size_alloc, World.size_setCell, World.size_drew] at z2)
    refine hK.out _ _ ?s17 (fun hHeld17 => ?_)
    case s17 => ((try dsimp only); (first | go_keep | (obtain ⟨hq, _⟩ := bcell ‹Below _ _ _›; (repeat' apply And.intro) <;> (rw [hq _ _ (by first | assumption | omega | (simp; done) | (simp; omega) | (simp; assumption))] <;> (first | assumption | (simp [*]; done))))))
    clear hK K hHeld
    have hHeld := hHeld17; clear hHeld17
    try simp only [Act.put, List.setIfInBounds_toArray, List.set_cons_zero, List.set_cons_succ]
    refine wpAnyH_take_d (i := 5) (d := some 6) (v := ?v18) rfl rfl (by kernel_rfl) (by kernel_rfl) (by kernel_rfl) (fun _ _ _ h => h) (Or.inl ⟨by kernel_rfl, ?y18⟩) (by assumption) ?_
    case y18 => (intro w' hSw; (try dsimp only at hSw); go_simp; try with_reducible rfl)
    try simp only [Act.put, List.setIfInBounds_toArray, List.set_cons_zero, List.set_cons_succ]
    refine wpAnyH_done (by kernel_rfl) ?_ _
    refine NoPanic.normal ?_
    clear hHeld
    have B1 : Below w.heap.size w w2 := by (repeat' (first | (with_reducible exact Below.refl _ _) | (with_reducible assumption) | (with_reducible refine Below.alloc ?_ ?_ _) | (with_reducible refine Below.drew ?_) | (with_reducible refine below_drewN ?_ _) | (with_reducible refine Below.setCell ?_ ?_ _) | (with_reducible refine Below.trans ?_ (Below.mono (by assumption) ?_)) | (first | omega | (simp only [World.size_alloc, World.size_setCell, World.size_drew]; omega) | (simp; omega) | (simp; done))))
    have K1 : Blk w2 w.heap.size 32 #[.int .i64 n, .slice A L c] := (((Blk.new w _ _).drew.below hb1 (by (try simp only [World.size_alloc, World.size_drew]); omega))).below hb2 (by omega)
    have k0 := K1.cellAt 0 _ rfl
    have k1 := K1.cellAt 1 _ rfl
    have hwl := K1.lt
    clear hb1 hb2
    go_wp2
    go_ret2
    exact ⟨rfl, B1⟩
set_option maxHeartbeats 4000000 in
theorem specGe_b (n : Int) (A : Option Addr) (c : Nat) (es : List (Int × Int)) (B : Option Addr) (cb : Nat) (rot : List Int) (w : World) (hl : es.length ≤ 1048576) (hlx : rot.length ≤ 1048576) (hr : RdE w A es) (hx : RdI w B rot) (r v : Int) (Hr : Hid ((geOf n es rot).1 = r)) (Hv : Hid ((geOf n es rot).2 = v)) :
    Calls Try.prog 21 #[.agg #[.int .i64 n, .slice A es.length c], .slice B rot.length cb] w fun e w' => e = .returned (.tuple #[.int .i64 r, .int .i64 v]) ∧ Below w.heap.size w w' := by
  obtain ⟨qg, hg⟩ : ∃ q, Hid (isGraphB n es = q) := ⟨_, rfl⟩
  obtain ⟨qs, hs⟩ : ∃ q, Hid (rotB n rot = q) := ⟨_, rfl⟩
  obtain ⟨qc, hc⟩ : ∃ q, Hid (connB n es = q) := ⟨_, rfl⟩
  have cg := Lib.hid fun W (hW : Below w.heap.size w W) => l07Rotation_b n A c es B cb rot W qg qs hg hs hl hlx (hr.below hW) (hx.below hW)
  have hr1 := Hr.out
  have hv1 := Hv.out
  rw [geOf, hg.out, hs.out, hc.out] at hr1 hv1
  by_cases hall : qg = true ∧ qs = true
  · obtain ⟨rfl, rfl⟩ := hall
    have hlen := isGraphB_len hg.out
    have cc := Lib.hid fun W (hW : Below w.heap.size w W) => conn_spec n A c es W qc hg.out hc (hr.below hW)
    have cf := Lib.hid fun W (hW : Below w.heap.size w W) => l07Genus_b n A c es B cb rot W hg.out (rotB_is hs.out) (by omega) (hr.below hW) (hx.below hW)
    clear hr hx hg hs hc Hr Hv
    generalize es.length = L at *
    generalize rot.length = M at *
    have hgc : gcode true true = 0 := rfl
    rw [hgc] at cg
    cases qc
    · simp at hr1 hv1
      subst hr1; subst hv1
      go_enter Try.func21, Try.ntmps21
      go_wp2_with fail
      refine (cg.out _ (by (repeat' (first | (with_reducible exact Below.refl _ _) | (with_reducible assumption) | (with_reducible refine Below.alloc ?_ ?_ _) | (with_reducible refine Below.drew ?_) | (with_reducible refine below_drewN ?_ _) | (with_reducible refine Below.setCell ?_ ?_ _) | (with_reducible refine Below.trans ?_ (Below.mono (by assumption) ?_)) | (first | omega | (simp only [World.size_alloc, World.size_setCell, World.size_drew]; omega) | (simp; omega) | (simp; done)))))).mono ?_
      rintro e w2 ⟨rfl, hb2⟩
      have B1 : Below w.heap.size w w2 := by (repeat' (first | (with_reducible exact Below.refl _ _) | (with_reducible assumption) | (with_reducible refine Below.alloc ?_ ?_ _) | (with_reducible refine Below.drew ?_) | (with_reducible refine below_drewN ?_ _) | (with_reducible refine Below.setCell ?_ ?_ _) | (with_reducible refine Below.trans ?_ (Below.mono (by assumption) ?_)) | (first | omega | (simp only [World.size_alloc, World.size_setCell, World.size_drew]; omega) | (simp; omega) | (simp; done))))
      have K1 : Blk w2 w.heap.size 32 #[.int .i64 n, .slice A L c] := (Blk.new w _ _).below hb2 (by (first | omega | (simp only [World.size_alloc, World.size_setCell, World.size_drew]; omega) | (simp; omega) | (simp; done)))
      have k0 := K1.cellAt 0 _ rfl
      have k1 := K1.cellAt 1 _ rfl
      have hwl := K1.lt
      clear hb2
      go_wp2_with fail
      refine (cc.out _ B1).mono ?_
      rintro e w3 ⟨rfl, hb3⟩
      go_wp2
      go_ret2
      exact ⟨rfl, B1.trans (hb3.mono B1.size)⟩
    · simp at hr1 hv1
      rw [hgc] at hv1
      subst hr1; subst hv1
      go_enter Try.func21, Try.ntmps21
      go_wp2_with fail
      refine (cg.out _ (by (repeat' (first | (with_reducible exact Below.refl _ _) | (with_reducible assumption) | (with_reducible refine Below.alloc ?_ ?_ _) | (with_reducible refine Below.drew ?_) | (with_reducible refine below_drewN ?_ _) | (with_reducible refine Below.setCell ?_ ?_ _) | (with_reducible refine Below.trans ?_ (Below.mono (by assumption) ?_)) | (first | omega | (simp only [World.size_alloc, World.size_setCell, World.size_drew]; omega) | (simp; omega) | (simp; done)))))).mono ?_
      rintro e w2 ⟨rfl, hb2⟩
      have B1 : Below w.heap.size w w2 := by (repeat' (first | (with_reducible exact Below.refl _ _) | (with_reducible assumption) | (with_reducible refine Below.alloc ?_ ?_ _) | (with_reducible refine Below.drew ?_) | (with_reducible refine below_drewN ?_ _) | (with_reducible refine Below.setCell ?_ ?_ _) | (with_reducible refine Below.trans ?_ (Below.mono (by assumption) ?_)) | (first | omega | (simp only [World.size_alloc, World.size_setCell, World.size_drew]; omega) | (simp; omega) | (simp; done))))
      have K1 : Blk w2 w.heap.size 32 #[.int .i64 n, .slice A L c] := (Blk.new w _ _).below hb2 (by (first | omega | (simp only [World.size_alloc, World.size_setCell, World.size_drew]; omega) | (simp; omega) | (simp; done)))
      have k0 := K1.cellAt 0 _ rfl
      have k1 := K1.cellAt 1 _ rfl
      have hwl := K1.lt
      clear hb2
      go_wp2_with fail
      refine (cc.out _ B1).mono ?_
      rintro e w3 ⟨rfl, hb3⟩
      have B3 := B1.trans (hb3.mono B1.size)
      have K3 := K1.below hb3 hwl
      have k30 := K3.cellAt 0 _ rfl
      have k31 := K3.cellAt 1 _ rfl
      go_wp2_with fail
      refine (cf.out _ B3).mono ?_
      rintro e w4 ⟨rfl, hb4⟩
      go_wp2
      go_ret2
      exact ⟨rfl, B3.trans (hb4.mono B3.size)⟩
  · have g0 : v = gcode qg qs ∧ r = 0 := by
      cases qg <;> cases qs <;> simp_all
    obtain ⟨rfl, rfl⟩ := g0
    obtain ⟨v, Hv9⟩ : ∃ v, Hid (gcode qg qs = v) := ⟨_, rfl⟩
    have g1 : (v != 0) = true := by
      have := Hv9.out
      cases qg <;> cases qs <;> simp_all [gcode]
      all_goals (subst this; decide)
    have g2 : (v == 0) = false := by simpa using g1
    rw [Hv9.out] at cg ⊢
    clear hr hg hx hs hc Hr Hv hall hr1 hv1
    generalize es.length = L at *
    generalize rot.length = M at *
    go_enter Try.func21, Try.ntmps21
    go_wp2_with fail
    refine (cg.out _ (by (repeat' (first | (with_reducible exact Below.refl _ _) | (with_reducible assumption) | (with_reducible refine Below.alloc ?_ ?_ _) | (with_reducible refine Below.drew ?_) | (with_reducible refine below_drewN ?_ _) | (with_reducible refine Below.setCell ?_ ?_ _) | (with_reducible refine Below.trans ?_ (Below.mono (by assumption) ?_)) | (first | omega | (simp only [World.size_alloc, World.size_setCell, World.size_drew]; omega) | (simp; omega) | (simp; done)))))).mono ?_
    rintro e w2 ⟨rfl, hb2⟩
    have B1 : Below w.heap.size w w2 := by (repeat' (first | (with_reducible exact Below.refl _ _) | (with_reducible assumption) | (with_reducible refine Below.alloc ?_ ?_ _) | (with_reducible refine Below.drew ?_) | (with_reducible refine below_drewN ?_ _) | (with_reducible refine Below.setCell ?_ ?_ _) | (with_reducible refine Below.trans ?_ (Below.mono (by assumption) ?_)) | (first | omega | (simp only [World.size_alloc, World.size_setCell, World.size_drew]; omega) | (simp; omega) | (simp; done))))
    have K1 : Blk w2 w.heap.size 32 #[.int .i64 n, .slice A L c] := (Blk.new w _ _).below hb2 (by (first | omega | (simp only [World.size_alloc, World.size_setCell, World.size_drew]; omega) | (simp; omega) | (simp; done)))
    have k0 := K1.cellAt 0 _ rfl
    have k1 := K1.cellAt 1 _ rfl
    have hwl := K1.lt
    clear hb2
    go_wp2
    go_ret2
    exact ⟨rfl, B1⟩
end Go.Proofs.Ytigdfcigoejjjaa
