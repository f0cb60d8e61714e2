/- The codes of vertices and of edges (l06), limited. No statement of the program is proved here. -/
import Derived.Test.YtblidpodbpoaeaaCd
import Derived.Test.YtblidpodbpoaeaaGo1
import Derived.Test.YtblidpodbpoaeaaNe1
namespace Go.Proofs.Ytblidpodbpoaeaa
open Go.RowKit
set_option linter.unusedSimpArgs false
set_option linter.unusedVariables false
set_option maxRecDepth 20000

set_option maxHeartbeats 1000000 in
theorem l06Vertices_b (n : Int) (A : Option Addr) (c : Nat) (es : List (Int × Int)) (L : Option Addr) (lc : Nat) (vs : List Int) (w : World) (qg qv : Bool) (hq : Hid (isGraphB n es = qg)) (hv : Hid (vs.all (fun v => inB v 0 (n - 1)) = qv)) (hl : es.length ≤ 1048576) (hlv : vs.length ≤ 1048576) (hr : RdE w A es) (hrv : RdI w L vs) :
    Calls Try.prog 46 #[.agg #[.int .i64 n, .slice A es.length c], .slice L vs.length lc] w fun e w' => e = .returned (.int .i64 (gcode qg qv)) ∧ Below w.heap.size w w' := by
  have c1 := fun W (hW : Below w.heap.size w W) => l01Is_b n A c es W qg hq hl (hr.below hW)
  cases qg
  · clear hr hq hrv
    go_enter Try.func46, Try.ntmps46
    go_wp2_with fail
    refine (c1 _ (by (repeat' (first | (with_reducible exact Below.refl _ _) | (with_reducible assumption) | (with_reducible refine Below.alloc ?_ ?_ _) | (with_reducible refine Below.drew ?_) | (with_reducible refine below_drewN ?_ _) | (with_reducible refine Below.setCell ?_ ?_ _) | (with_reducible refine Below.trans ?_ (Below.mono (by assumption) ?_)) | (first | omega | (simp only [World.size_alloc, World.size_setCell, World.size_drew]; omega) | (simp; omega) | (simp; done)))))).mono ?_
    rintro e w1 ⟨rfl, hb1⟩
    go_wp2
    go_ret
    exact ⟨rfl, by (repeat' (first | (with_reducible exact Below.refl _ _) | (with_reducible assumption) | (with_reducible refine Below.alloc ?_ ?_ _) | (with_reducible refine Below.drew ?_) | (with_reducible refine below_drewN ?_ _) | (with_reducible refine Below.setCell ?_ ?_ _) | (with_reducible refine Below.trans ?_ (Below.mono (by assumption) ?_)) | (first | omega | (simp only [World.size_alloc, World.size_setCell, World.size_drew]; omega) | (simp; omega) | (simp; done))))⟩
  · have hn : 2 ≤ n ∧ n ≤ 20 := by
      have := hq.out
      simp only [isGraphB, Bool.and_eq_true] at this
      exact (areEdgesB_in this.1).1
    obtain ⟨hn1, hn2⟩ := hn
    clear hr hq
    generalize hm : vs.length = m at *
    have Hm := Lib.hid hm; clear hm
    go_enter Try.func46, Try.ntmps46
    go_wp2_with fail
    refine (c1 _ (by (repeat' (first | (with_reducible exact Below.refl _ _) | (with_reducible assumption) | (with_reducible refine Below.alloc ?_ ?_ _) | (with_reducible refine Below.drew ?_) | (with_reducible refine below_drewN ?_ _) | (with_reducible refine Below.setCell ?_ ?_ _) | (with_reducible refine Below.trans ?_ (Below.mono (by assumption) ?_)) | (first | omega | (simp only [World.size_alloc, World.size_setCell, World.size_drew]; omega) | (simp; omega) | (simp; done)))))).mono ?_
    rintro e w1 ⟨rfl, hb1⟩
    simp only [World.size_alloc, World.size_setCell, World.size_drew] at hb1; have B1 : Below w.heap.size w w1 := by (repeat' (first | (with_reducible exact Below.refl _ _) | (with_reducible assumption) | (with_reducible refine Below.alloc ?_ ?_ _) | (with_reducible refine Below.drew ?_) | (with_reducible refine below_drewN ?_ _) | (with_reducible refine Below.setCell ?_ ?_ _) | (with_reducible refine Below.trans ?_ (Below.mono (by assumption) ?_)) | (first | omega | (simp only [World.size_alloc, World.size_setCell, World.size_drew]; omega) | (simp; omega) | (simp; done))))
    have K1 : Blk w1 w.heap.size 24 #[.int .i64 n, .slice A es.length c] := (Blk.new' _ rfl).below hb1 (by omega)
    have d10 := K1.cellAt 0 _ rfl; have d11 := K1.cellAt 1 _ rfl; have z1 := hb1.size; simp only [World.size_alloc, World.size_setCell, World.size_drew] at z1
    go_wp2_with fail
    clear c1 d10 d11
    go_loopw [5] (fun i wr => ∃ k : Nat, k ≤ m ∧ i = .int .i64 k ∧ Hid (∀ j, j < k → inB (vs.getD j 0) 0 (n - 1) = true) ∧ Blk wr w.heap.size 24 #[.int .i64 n, .slice A es.length c] ∧ Below w.heap.size w wr) (fun i _ => m - (intOf i).toNat)
    case atStart => exact ⟨0, Nat.zero_le _, rfl, (by intro j hj; omega), K1, B1⟩
    case round =>
      obtain ⟨k, hk, rfl, hE, K, hbel⟩ := hrel
      have hsz := hbel.size
      have k0 := K.cellAt 0 _ rfl
      have HK := Lib.hid K; clear K
      by_cases hlt : k < m
      · obtain ⟨b, off, rfl, hb, hc⟩ := (hrv.below hbel).pos (by have := Hm.out; omega)
        have hc0 := (hc k (by have := Hm.out; omega))
        clear hc hrv
        obtain ⟨x, Hx⟩ : ∃ x, Hid (vs.getD k 0 = x) := ⟨_, rfl⟩
        rw [Hx.out] at hc0
        obtain ⟨q, Hq⟩ : ∃ q, Hid (inB x 0 (n - 1) = q) := ⟨_, rfl⟩
        go_wp2
        have hw1 : IntKind.i64.wrap (n - 1) = n - 1 := IntWalk.i64_in _ (by omega)
        go_quiet ((go_at_call 74; refine Calls.quiet_of_same (l01In_same _ _ _ _ q Hq)))
        clear hw1
        cases q
        · go_wp2
          go_ret
          refine ⟨?_, by (repeat' (first | (with_reducible exact Below.refl _ _) | (with_reducible assumption) | (with_reducible refine Below.alloc ?_ ?_ _) | (with_reducible refine Below.drew ?_) | (with_reducible refine below_drewN ?_ _) | (with_reducible refine Below.setCell ?_ ?_ _) | (with_reducible refine Below.trans ?_ (Below.mono (by assumption) ?_)) | (first | omega | (simp only [World.size_alloc, World.size_setCell, World.size_drew]; omega) | (simp; omega) | (simp; done))))⟩
          have : vs.all (fun v => inB v 0 (n - 1)) = false := by
            rw [List.all_eq_false]
            have hlt' : k < vs.length := by have := Hm.out; omega
            refine ⟨vs.getD k 0, ?_, by rw [Hx.out, Hq.out]; simp⟩
            simp only [List.getD_eq_getElem?_getD, List.getElem?_eq_getElem hlt', Option.getD_some]
            exact List.getElem_mem _
          rw [← hv.out, this]; rfl
        · go_wp2
          refine ⟨⟨k + 1, by omega, by go_num, ?_, HK.out, by (repeat' (first | (with_reducible exact Below.refl _ _) | (with_reducible assumption) | (with_reducible refine Below.alloc ?_ ?_ _) | (with_reducible refine Below.drew ?_) | (with_reducible refine below_drewN ?_ _) | (with_reducible refine Below.setCell ?_ ?_ _) | (with_reducible refine Below.trans ?_ (Below.mono (by assumption) ?_)) | (first | omega | (simp only [World.size_alloc, World.size_setCell, World.size_drew]; omega) | (simp; omega) | (simp; done))))⟩, by simp [intOf]; omega⟩
          intro j hj
          by_cases e : j = k
          · subst e; rw [Hx.out]; exact Hq.out
          · exact hE.out j (by omega)
      · obtain rfl : k = m := by omega
        go_wp2
        go_ret
        refine ⟨?_, hbel⟩
        have : vs.all (fun v => inB v 0 (n - 1)) = true := by
          rw [List.all_eq_true]
          intro x hx
          obtain ⟨j, hj, rfl⟩ := List.getElem_of_mem hx
          have := hE.out j (by have := Hm.out; omega)
          simpa only [List.getD_eq_getElem?_getD, List.getElem?_eq_getElem hj, Option.getD_some] using this
        rw [← hv.out, this]; rfl

set_option maxHeartbeats 1000000 in
theorem l06Edges_b (n : Int) (A : Option Addr) (c : Nat) (es : List (Int × Int)) (L : Option Addr) (lc : Nat) (vs : List Int) (w : World) (qg qv : Bool) (hq : Hid (isGraphB n es = qg)) (hv : Hid (vs.all (fun v => inB v 0 ((es.length : Int) - 1)) = qv)) (hl : es.length ≤ 1048576) (hlv : vs.length ≤ 1048576) (hr : RdE w A es) (hrv : RdI w L vs) :
    Calls Try.prog 40 #[.agg #[.int .i64 n, .slice A es.length c], .slice L vs.length lc] w fun e w' => e = .returned (.int .i64 (gcode qg qv)) ∧ Below w.heap.size w w' := by
  have c1 := fun W (hW : Below w.heap.size w W) => l01Is_b n A c es W qg hq hl (hr.below hW)
  cases qg
  · clear hr hq hrv
    go_enter Try.func40, Try.ntmps40
    go_wp2_with fail
    refine (c1 _ (by (repeat' (first | (with_reducible exact Below.refl _ _) | (with_reducible assumption) | (with_reducible refine Below.alloc ?_ ?_ _) | (with_reducible refine Below.drew ?_) | (with_reducible refine below_drewN ?_ _) | (with_reducible refine Below.setCell ?_ ?_ _) | (with_reducible refine Below.trans ?_ (Below.mono (by assumption) ?_)) | (first | omega | (simp only [World.size_alloc, World.size_setCell, World.size_drew]; omega) | (simp; omega) | (simp; done)))))).mono ?_
    rintro e w1 ⟨rfl, hb1⟩
    go_wp2
    go_ret
    exact ⟨rfl, by (repeat' (first | (with_reducible exact Below.refl _ _) | (with_reducible assumption) | (with_reducible refine Below.alloc ?_ ?_ _) | (with_reducible refine Below.drew ?_) | (with_reducible refine below_drewN ?_ _) | (with_reducible refine Below.setCell ?_ ?_ _) | (with_reducible refine Below.trans ?_ (Below.mono (by assumption) ?_)) | (first | omega | (simp only [World.size_alloc, World.size_setCell, World.size_drew]; omega) | (simp; omega) | (simp; done))))⟩
  · have hn : 2 ≤ n ∧ n ≤ 20 := by
      have := hq.out
      simp only [isGraphB, Bool.and_eq_true] at this
      exact (areEdgesB_in this.1).1
    obtain ⟨hn1, hn2⟩ := hn
    clear hr hq
    generalize hm : vs.length = m at *
    have Hm := Lib.hid hm; clear hm
    go_enter Try.func40, Try.ntmps40
    go_wp2_with fail
    refine (c1 _ (by (repeat' (first | (with_reducible exact Below.refl _ _) | (with_reducible assumption) | (with_reducible refine Below.alloc ?_ ?_ _) | (with_reducible refine Below.drew ?_) | (with_reducible refine below_drewN ?_ _) | (with_reducible refine Below.setCell ?_ ?_ _) | (with_reducible refine Below.trans ?_ (Below.mono (by assumption) ?_)) | (first | omega | (simp only [World.size_alloc, World.size_setCell, World.size_drew]; omega) | (simp; omega) | (simp; done)))))).mono ?_
    rintro e w1 ⟨rfl, hb1⟩
    simp only [World.size_alloc, World.size_setCell, World.size_drew] at hb1; have B1 : Below w.heap.size w w1 := by (repeat' (first | (with_reducible exact Below.refl _ _) | (with_reducible assumption) | (with_reducible refine Below.alloc ?_ ?_ _) | (with_reducible refine Below.drew ?_) | (with_reducible refine below_drewN ?_ _) | (with_reducible refine Below.setCell ?_ ?_ _) | (with_reducible refine Below.trans ?_ (Below.mono (by assumption) ?_)) | (first | omega | (simp only [World.size_alloc, World.size_setCell, World.size_drew]; omega) | (simp; omega) | (simp; done))))
    have K1 : Blk w1 w.heap.size 24 #[.int .i64 n, .slice A es.length c] := (Blk.new' _ rfl).below hb1 (by omega)
    have d10 := K1.cellAt 0 _ rfl; have d11 := K1.cellAt 1 _ rfl; have z1 := hb1.size; simp only [World.size_alloc, World.size_setCell, World.size_drew] at z1
    go_wp2_with fail
    clear c1 d10 d11
    go_loopw [5] (fun i wr => ∃ k : Nat, k ≤ m ∧ i = .int .i64 k ∧ Hid (∀ j, j < k → inB (vs.getD j 0) 0 ((es.length : Int) - 1) = true) ∧ Blk wr w.heap.size 24 #[.int .i64 n, .slice A es.length c] ∧ Below w.heap.size w wr) (fun i _ => m - (intOf i).toNat)
    case atStart => exact ⟨0, Nat.zero_le _, rfl, (by intro j hj; omega), K1, B1⟩
    case round =>
      obtain ⟨k, hk, rfl, hE, K, hbel⟩ := hrel
      have hsz := hbel.size
      have k0 := K.cellAt 0 _ rfl
      have k1 := K.cellAt 1 _ rfl
      have HK := Lib.hid K; clear K
      by_cases hlt : k < m
      · obtain ⟨b, off, rfl, hb, hc⟩ := (hrv.below hbel).pos (by have := Hm.out; omega)
        have hc0 := (hc k (by have := Hm.out; omega))
        clear hc hrv
        obtain ⟨x, Hx⟩ : ∃ x, Hid (vs.getD k 0 = x) := ⟨_, rfl⟩
        rw [Hx.out] at hc0
        obtain ⟨q, Hq⟩ : ∃ q, Hid (inB x 0 ((es.length : Int) - 1) = q) := ⟨_, rfl⟩
        go_wp2
        have hw1 : IntKind.i64.wrap ((es.length : Int) - 1) = (es.length : Int) - 1 := IntWalk.i64_in _ (by omega)
        go_quiet ((go_at_call 74; refine Calls.quiet_of_same (l01In_same _ _ _ _ q Hq)))
        clear hw1
        cases q
        · go_wp2
          go_ret
          refine ⟨?_, by (repeat' (first | (with_reducible exact Below.refl _ _) | (with_reducible assumption) | (with_reducible refine Below.alloc ?_ ?_ _) | (with_reducible refine Below.drew ?_) | (with_reducible refine below_drewN ?_ _) | (with_reducible refine Below.setCell ?_ ?_ _) | (with_reducible refine Below.trans ?_ (Below.mono (by assumption) ?_)) | (first | omega | (simp only [World.size_alloc, World.size_setCell, World.size_drew]; omega) | (simp; omega) | (simp; done))))⟩
          have : vs.all (fun v => inB v 0 ((es.length : Int) - 1)) = false := by
            rw [List.all_eq_false]
            have hlt' : k < vs.length := by have := Hm.out; omega
            refine ⟨vs.getD k 0, ?_, by rw [Hx.out, Hq.out]; simp⟩
            simp only [List.getD_eq_getElem?_getD, List.getElem?_eq_getElem hlt', Option.getD_some]
            exact List.getElem_mem _
          rw [← hv.out, this]; rfl
        · go_wp2
          refine ⟨⟨k + 1, by omega, by go_num, ?_, HK.out, by (repeat' (first | (with_reducible exact Below.refl _ _) | (with_reducible assumption) | (with_reducible refine Below.alloc ?_ ?_ _) | (with_reducible refine Below.drew ?_) | (with_reducible refine below_drewN ?_ _) | (with_reducible refine Below.setCell ?_ ?_ _) | (with_reducible refine Below.trans ?_ (Below.mono (by assumption) ?_)) | (first | omega | (simp only [World.size_alloc, World.size_setCell, World.size_drew]; omega) | (simp; omega) | (simp; done))))⟩, by simp [intOf]; omega⟩
          intro j hj
          by_cases e : j = k
          · subst e; rw [Hx.out]; exact Hq.out
          · exact hE.out j (by omega)
      · obtain rfl : k = m := by omega
        go_wp2
        go_ret
        refine ⟨?_, hbel⟩
        have : vs.all (fun v => inB v 0 ((es.length : Int) - 1)) = true := by
          rw [List.all_eq_true]
          intro x hx
          obtain ⟨j, hj, rfl⟩ := List.getElem_of_mem hx
          have := hE.out j (by have := Hm.out; omega)
          simpa only [List.getD_eq_getElem?_getD, List.getElem?_eq_getElem hj, Option.getD_some] using this
        rw [← hv.out, this]; rfl
end Go.Proofs.Ytblidpodbpoaeaa
