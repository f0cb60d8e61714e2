/- The codes of vertices and of edges (l06), limited. No statement of the program is proved here. -/
/- limited: a graph of edges that a function value gives. No statement of the program is proved here. -/
import Derived.Test.YtjgmoffkecnmcaaGreatCd
import Derived.Test.YtjgmoffkecnmcaaGreatGo1
import Derived.Test.YtjgmoffkecnmcaaGreatNe1
import Derived.Test.YtjgmoffkecnmcaaGreatCi2
namespace Go.Proofs.YtjgmoffkecnmcaaGreat
open Go.RowKit
set_option linter.unusedSimpArgs false
set_option linter.unusedVariables false
set_option maxRecDepth 20000

set_option maxHeartbeats 1000000 in
theorem l06Vertices_b (n : Int) (A : Option Addr) (c : Nat) (es : List (Int × Int)) (L : Option Addr) (lc : Nat) (vs : List Int) (w : World) (qg qv : Bool) (hq : Hid (isGraphB n es = qg)) (hv : Hid (vs.all (fun v => inB v 0 (n - 1)) = qv)) (hl : es.length ≤ 1048576) (hlv : vs.length ≤ 1048576) (hr : RdE w A es) (hrv : RdI w L vs) :
    Calls Tryz.prog 33 #[.agg #[.int .i64 n, .slice A es.length c], .slice L vs.length lc] w fun e w' => e = .returned (.int .i64 (gcode qg qv)) ∧ Below w.heap.size w w' := by
  have c1 := fun W (hW : Below w.heap.size w W) => l01Is_b n A c es W qg hq hl (hr.below hW)
  cases qg
  · clear hr hq hrv
    go_enter Tryz.func33, Tryz.ntmps33
    go_wp2_with fail
    refine (c1 _ (by (repeat' (first | (with_reducible exact Below.refl _ _) | (with_reducible assumption) | (with_reducible refine Below.alloc ?_ ?_ _) | (with_reducible refine Below.drew ?_) | (with_reducible refine below_drewN ?_ _) | (with_reducible refine Below.setCell ?_ ?_ _) | (with_reducible refine Below.trans ?_ (Below.mono (by assumption) ?_)) | (first | omega | (simp only [World.size_alloc, World.size_setCell, World.size_drew]; omega) | (simp; omega) | (simp; done)))))).mono ?_
    rintro e w1 ⟨rfl, hb1⟩
    go_wp2
    go_ret
    exact ⟨rfl, by (repeat' (first | (with_reducible exact Below.refl _ _) | (with_reducible assumption) | (with_reducible refine Below.alloc ?_ ?_ _) | (with_reducible refine Below.drew ?_) | (with_reducible refine below_drewN ?_ _) | (with_reducible refine Below.setCell ?_ ?_ _) | (with_reducible refine Below.trans ?_ (Below.mono (by assumption) ?_)) | (first | omega | (simp only [World.size_alloc, World.size_setCell, World.size_drew]; omega) | (simp; omega) | (simp; done))))⟩
  · have hn : 2 ≤ n ∧ n ≤ 20 := by
      have := hq.out
      simp only [isGraphB, Bool.and_eq_true] at this
      exact (areEdgesB_in this.1).1
    obtain ⟨hn1, hn2⟩ := hn
    clear hr hq
    generalize hm : vs.length = m at *
    have Hm := Lib.hid hm; clear hm
    go_enter Tryz.func33, Tryz.ntmps33
    go_wp2_with fail
    refine (c1 _ (by (repeat' (first | (with_reducible exact Below.refl _ _) | (with_reducible assumption) | (with_reducible refine Below.alloc ?_ ?_ _) | (with_reducible refine Below.drew ?_) | (with_reducible refine below_drewN ?_ _) | (with_reducible refine Below.setCell ?_ ?_ _) | (with_reducible refine Below.trans ?_ (Below.mono (by assumption) ?_)) | (first | omega | (simp only [World.size_alloc, World.size_setCell, World.size_drew]; omega) | (simp; omega) | (simp; done)))))).mono ?_
    rintro e w1 ⟨rfl, hb1⟩
    simp only [World.size_alloc, World.size_setCell, World.size_drew] at hb1; have B1 : Below w.heap.size w w1 := by (repeat' (first | (with_reducible exact Below.refl _ _) | (with_reducible assumption) | (with_reducible refine Below.alloc ?_ ?_ _) | (with_reducible refine Below.drew ?_) | (with_reducible refine below_drewN ?_ _) | (with_reducible refine Below.setCell ?_ ?_ _) | (with_reducible refine Below.trans ?_ (Below.mono (by assumption) ?_)) | (first | omega | (simp only [World.size_alloc, World.size_setCell, World.size_drew]; omega) | (simp; omega) | (simp; done))))
    have K1 : Blk w1 w.heap.size 28 #[.int .i64 n, .slice A es.length c] := (Blk.new' _ rfl).below hb1 (by omega)
    have d10 := K1.cellAt 0 _ rfl; have d11 := K1.cellAt 1 _ rfl; have z1 := hb1.size; simp only [World.size_alloc, World.size_setCell, World.size_drew] at z1
    go_wp2_with fail
    clear c1 d10 d11
    go_loopw [5] (fun i wr => ∃ k : Nat, k ≤ m ∧ i = .int .i64 k ∧ Hid (∀ j, j < k → inB (vs.getD j 0) 0 (n - 1) = true) ∧ Blk wr w.heap.size 28 #[.int .i64 n, .slice A es.length c] ∧ Below w.heap.size w wr) (fun i _ => m - (intOf i).toNat)
    case atStart => exact ⟨0, Nat.zero_le _, rfl, (by intro j hj; omega), K1, B1⟩
    case round =>
      obtain ⟨k, hk, rfl, hE, K, hbel⟩ := hrel
      have hsz := hbel.size
      have k0 := K.cellAt 0 _ rfl
      have HK := Lib.hid K; clear K
      by_cases hlt : k < m
      · obtain ⟨b, off, rfl, hb, hc⟩ := (hrv.below hbel).pos (by have := Hm.out; omega)
        have hc0 := (hc k (by have := Hm.out; omega))
        clear hc hrv
        obtain ⟨x, Hx⟩ : ∃ x, Hid (vs.getD k 0 = x) := ⟨_, rfl⟩
        rw [Hx.out] at hc0
        obtain ⟨q, Hq⟩ : ∃ q, Hid (inB x 0 (n - 1) = q) := ⟨_, rfl⟩
        go_wp2
        have hw1 : IntKind.i64.wrap (n - 1) = n - 1 := IntWalk.i64_in _ (by omega)
        go_quiet ((go_at_call 42; refine Calls.quiet_of_same (l01In_same _ _ _ _ q Hq)))
        clear hw1
        cases q
        · go_wp2
          go_ret
          refine ⟨?_, by (repeat' (first | (with_reducible exact Below.refl _ _) | (with_reducible assumption) | (with_reducible refine Below.alloc ?_ ?_ _) | (with_reducible refine Below.drew ?_) | (with_reducible refine below_drewN ?_ _) | (with_reducible refine Below.setCell ?_ ?_ _) | (with_reducible refine Below.trans ?_ (Below.mono (by assumption) ?_)) | (first | omega | (simp only [World.size_alloc, World.size_setCell, World.size_drew]; omega) | (simp; omega) | (simp; done))))⟩
          have : vs.all (fun v => inB v 0 (n - 1)) = false := by
            rw [List.all_eq_false]
            have hlt' : k < vs.length := by have := Hm.out; omega
            refine ⟨vs.getD k 0, ?_, by rw [Hx.out, Hq.out]; simp⟩
            simp only [List.getD_eq_getElem?_getD, List.getElem?_eq_getElem hlt', Option.getD_some]
            exact List.getElem_mem _
          rw [← hv.out, this]; rfl
        · go_wp2
          refine ⟨⟨k + 1, by omega, by go_num, ?_, HK.out, by (repeat' (first | (with_reducible exact Below.refl _ _) | (with_reducible assumption) | (with_reducible refine Below.alloc ?_ ?_ _) | (with_reducible refine Below.drew ?_) | (with_reducible refine below_drewN ?_ _) | (with_reducible refine Below.setCell ?_ ?_ _) | (with_reducible refine Below.trans ?_ (Below.mono (by assumption) ?_)) | (first | omega | (simp only [World.size_alloc, World.size_setCell, World.size_drew]; omega) | (simp; omega) | (simp; done))))⟩, by simp [intOf]; omega⟩
          intro j hj
          by_cases e : j = k
          · subst e; rw [Hx.out]; exact Hq.out
          · exact hE.out j (by omega)
      · obtain rfl : k = m := by omega
        go_wp2
        go_ret
        refine ⟨?_, hbel⟩
        have : vs.all (fun v => inB v 0 (n - 1)) = true := by
          rw [List.all_eq_true]
          intro x hx
          obtain ⟨j, hj, rfl⟩ := List.getElem_of_mem hx
          have := hE.out j (by have := Hm.out; omega)
          simpa only [List.getD_eq_getElem?_getD, List.getElem?_eq_getElem hj, Option.getD_some] using this
        rw [← hv.out, this]; rfl

set_option maxHeartbeats 1000000 in
theorem l06Edges_b (n : Int) (A : Option Addr) (c : Nat) (es : List (Int × Int)) (L : Option Addr) (lc : Nat) (vs : List Int) (w : World) (qg qv : Bool) (hq : Hid (isGraphB n es = qg)) (hv : Hid (vs.all (fun v => inB v 0 ((es.length : Int) - 1)) = qv)) (hl : es.length ≤ 1048576) (hlv : vs.length ≤ 1048576) (hr : RdE w A es) (hrv : RdI w L vs) :
    Calls Tryz.prog 15 #[.agg #[.int .i64 n, .slice A es.length c], .slice L vs.length lc] w fun e w' => e = .returned (.int .i64 (gcode qg qv)) ∧ Below w.heap.size w w' := by
  have c1 := fun W (hW : Below w.heap.size w W) => l01Is_b n A c es W qg hq hl (hr.below hW)
  cases qg
  · clear hr hq hrv
    go_enter Tryz.func15, Tryz.ntmps15
    go_wp2_with fail
    refine (c1 _ (by (repeat' (first | (with_reducible exact Below.refl _ _) | (with_reducible assumption) | (with_reducible refine Below.alloc ?_ ?_ _) | (with_reducible refine Below.drew ?_) | (with_reducible refine below_drewN ?_ _) | (with_reducible refine Below.setCell ?_ ?_ _) | (with_reducible refine Below.trans ?_ (Below.mono (by assumption) ?_)) | (first | omega | (simp only [World.size_alloc, World.size_setCell, World.size_drew]; omega) | (simp; omega) | (simp; done)))))).mono ?_
    rintro e w1 ⟨rfl, hb1⟩
    go_wp2
    go_ret
    exact ⟨rfl, by (repeat' (first | (with_reducible exact Below.refl _ _) | (with_reducible assumption) | (with_reducible refine Below.alloc ?_ ?_ _) | (with_reducible refine Below.drew ?_) | (with_reducible refine below_drewN ?_ _) | (with_reducible refine Below.setCell ?_ ?_ _) | (with_reducible refine Below.trans ?_ (Below.mono (by assumption) ?_)) | (first | omega | (simp only [World.size_alloc, World.size_setCell, World.size_drew]; omega) | (simp; omega) | (simp; done))))⟩
  · have hn : 2 ≤ n ∧ n ≤ 20 := by
      have := hq.out
      simp only [isGraphB, Bool.and_eq_true] at this
      exact (areEdgesB_in this.1).1
    obtain ⟨hn1, hn2⟩ := hn
    clear hr hq
    generalize hm : vs.length = m at *
    have Hm := Lib.hid hm; clear hm
    go_enter Tryz.func15, Tryz.ntmps15
    go_wp2_with fail
    refine (c1 _ (by (repeat' (first | (with_reducible exact Below.refl _ _) | (with_reducible assumption) | (with_reducible refine Below.alloc ?_ ?_ _) | (with_reducible refine Below.drew ?_) | (with_reducible refine below_drewN ?_ _) | (with_reducible refine Below.setCell ?_ ?_ _) | (with_reducible refine Below.trans ?_ (Below.mono (by assumption) ?_)) | (first | omega | (simp only [World.size_alloc, World.size_setCell, World.size_drew]; omega) | (simp; omega) | (simp; done)))))).mono ?_
    rintro e w1 ⟨rfl, hb1⟩
    simp only [World.size_alloc, World.size_setCell, World.size_drew] at hb1; have B1 : Below w.heap.size w w1 := by (repeat' (first | (with_reducible exact Below.refl _ _) | (with_reducible assumption) | (with_reducible refine Below.alloc ?_ ?_ _) | (with_reducible refine Below.drew ?_) | (with_reducible refine below_drewN ?_ _) | (with_reducible refine Below.setCell ?_ ?_ _) | (with_reducible refine Below.trans ?_ (Below.mono (by assumption) ?_)) | (first | omega | (simp only [World.size_alloc, World.size_setCell, World.size_drew]; omega) | (simp; omega) | (simp; done))))
    have K1 : Blk w1 w.heap.size 28 #[.int .i64 n, .slice A es.length c] := (Blk.new' _ rfl).below hb1 (by omega)
    have d10 := K1.cellAt 0 _ rfl; have d11 := K1.cellAt 1 _ rfl; have z1 := hb1.size; simp only [World.size_alloc, World.size_setCell, World.size_drew] at z1
    go_wp2_with fail
    clear c1 d10 d11
    go_loopw [5] (fun i wr => ∃ k : Nat, k ≤ m ∧ i = .int .i64 k ∧ Hid (∀ j, j < k → inB (vs.getD j 0) 0 ((es.length : Int) - 1) = true) ∧ Blk wr w.heap.size 28 #[.int .i64 n, .slice A es.length c] ∧ Below w.heap.size w wr) (fun i _ => m - (intOf i).toNat)
    case atStart => exact ⟨0, Nat.zero_le _, rfl, (by intro j hj; omega), K1, B1⟩
    case round =>
      obtain ⟨k, hk, rfl, hE, K, hbel⟩ := hrel
      have hsz := hbel.size
      have k0 := K.cellAt 0 _ rfl
      have k1 := K.cellAt 1 _ rfl
      have HK := Lib.hid K; clear K
      by_cases hlt : k < m
      · obtain ⟨b, off, rfl, hb, hc⟩ := (hrv.below hbel).pos (by have := Hm.out; omega)
        have hc0 := (hc k (by have := Hm.out; omega))
        clear hc hrv
        obtain ⟨x, Hx⟩ : ∃ x, Hid (vs.getD k 0 = x) := ⟨_, rfl⟩
        rw [Hx.out] at hc0
        obtain ⟨q, Hq⟩ : ∃ q, Hid (inB x 0 ((es.length : Int) - 1) = q) := ⟨_, rfl⟩
        go_wp2
        have hw1 : IntKind.i64.wrap ((es.length : Int) - 1) = (es.length : Int) - 1 := IntWalk.i64_in _ (by omega)
        go_quiet ((go_at_call 42; refine Calls.quiet_of_same (l01In_same _ _ _ _ q Hq)))
        clear hw1
        cases q
        · go_wp2
          go_ret
          refine ⟨?_, by (repeat' (first | (with_reducible exact Below.refl _ _) | (with_reducible assumption) | (with_reducible refine Below.alloc ?_ ?_ _) | (with_reducible refine Below.drew ?_) | (with_reducible refine below_drewN ?_ _) | (with_reducible refine Below.setCell ?_ ?_ _) | (with_reducible refine Below.trans ?_ (Below.mono (by assumption) ?_)) | (first | omega | (simp only [World.size_alloc, World.size_setCell, World.size_drew]; omega) | (simp; omega) | (simp; done))))⟩
          have : vs.all (fun v => inB v 0 ((es.length : Int) - 1)) = false := by
            rw [List.all_eq_false]
            have hlt' : k < vs.length := by have := Hm.out; omega
            refine ⟨vs.getD k 0, ?_, by rw [Hx.out, Hq.out]; simp⟩
            simp only [List.getD_eq_getElem?_getD, List.getElem?_eq_getElem hlt', Option.getD_some]
            exact List.getElem_mem _
          rw [← hv.out, this]; rfl
        · go_wp2
          refine ⟨⟨k + 1, by omega, by go_num, ?_, HK.out, by (repeat' (first | (with_reducible exact Below.refl _ _) | (with_reducible assumption) | (with_reducible refine Below.alloc ?_ ?_ _) | (with_reducible refine Below.drew ?_) | (with_reducible refine below_drewN ?_ _) | (with_reducible refine Below.setCell ?_ ?_ _) | (with_reducible refine Below.trans ?_ (Below.mono (by assumption) ?_)) | (first | omega | (simp only [World.size_alloc, World.size_setCell, World.size_drew]; omega) | (simp; omega) | (simp; done))))⟩, by simp [intOf]; omega⟩
          intro j hj
          by_cases e : j = k
          · subst e; rw [Hx.out]; exact Hq.out
          · exact hE.out j (by omega)
      · obtain rfl : k = m := by omega
        go_wp2
        go_ret
        refine ⟨?_, hbel⟩
        have : vs.all (fun v => inB v 0 ((es.length : Int) - 1)) = true := by
          rw [List.all_eq_true]
          intro x hx
          obtain ⟨j, hj, rfl⟩ := List.getElem_of_mem hx
          have := hE.out j (by have := Hm.out; omega)
          simpa only [List.getD_eq_getElem?_getD, List.getElem?_eq_getElem hj, Option.getD_some] using this
        rw [← hv.out, this]; rfl
end Go.Proofs.YtjgmoffkecnmcaaGreat
namespace Go.Proofs.YtjgmoffkecnmcaaGreat
open Go.RowKit
set_option linter.unusedSimpArgs false
set_option linter.unusedVariables false
set_option maxRecDepth 20000

/-- The graph of n vertices and the edges es, if there are not too many. -/
def limV (n : Int) (es : List (Int × Int)) : Int × List (Int × Int) × Int := if n > 20 then (0, [], 3) else (n, madeE es, 0)

set_option maxHeartbeats 2000000 in
theorem limited_b (n : Int) (g : Nat) (lb : Array Value) (es : List (Int × Int)) (w : World) (eg : Ent g) (h0 : 0 < es.length) (hl : es.length ≤ 10000)
    (hp : n ≤ 20 → ∀ W, Below w.heap.size w W → Calls Tryz.prog g lb W fun e w' => ∃ A c, e = .returned (.slice A es.length c) ∧ RdE w' A es ∧ Below W.heap.size W w') :
    Calls Tryz.prog 39 #[.int .i64 n, .func (.func g) #[] lb] w fun e w' => RetG w' w.heap.size e (limV n es).1 (limV n es).2.1 (limV n es).2.2 ∧ Below w.heap.size w w' := by
  have eg0 := eg
  unfold Ent at eg0
  clear eg
  by_cases h : n ≤ 20
  · have hv : limV n es = (n, madeE es, 0) := by unfold limV; rw [if_neg (by omega)]
    rw [hv]
    have Hp := Lib.hid (hp h)
    have Hg := Lib.hid fun A c W (hr : RdE W A es) => graphOf_b n A c es W h0 hl hr
    have g1 : decide (n > 20) = false := by simp; omega
    have Hm : Hid ((madeE es).length = es.length) := madeE_len es
    clear hp hv
    generalize es.length = m at *
    go_enter Tryz.func39, Tryz.ntmps39
    go_wp2_with fail
    refine (Hp.out (w.alloc (.cells #[.int .i64 0, .slice none 0 0] 28)) (by (repeat' (first | (with_reducible exact Below.refl _ _) | (with_reducible assumption) | (with_reducible refine Below.alloc ?_ ?_ _) | (with_reducible refine Below.drew ?_) | (with_reducible refine below_drewN ?_ _) | (with_reducible refine Below.setCell ?_ ?_ _) | (with_reducible refine Below.trans ?_ (Below.mono (by assumption) ?_)) | (first | omega | (simp only [World.size_alloc, World.size_setCell, World.size_drew]; omega) | (simp; omega) | (simp; done)))))).mono ?_
    rintro e w1 ⟨A1, c1, rfl, hr1, hb1⟩
    simp only [World.size_alloc, World.size_setCell, World.size_drew] at hb1
    go_wp2_with fail
    refine (Hg.out _ _ _ hr1).mono ?_
    rintro e w2 ⟨A2, c2, rfl, hF2, hb2⟩
    have hZ1 : Blk w1 w.heap.size 28 #[.int .i64 0, .slice none 0 0] := (Blk.new w _ _).below hb1 (by simp)
    have z1 := hb1.size
    simp only [World.size_alloc, World.size_setCell, World.size_drew] at z1
    have hZ2 := hZ1.below hb2 hZ1.lt
    have x0 := hZ2.cellAt 0 _ rfl
    have x1 : (w2.setCell ⟨w.heap.size, 0, none⟩ (.int .i64 n)).cell? ⟨w.heap.size, 1, none⟩ = some (.slice none 0 0) := (sc_other (by simp)).trans (hZ2.cellAt 1 _ rfl)
    have f0 := hZ2.frozen 0
    have f1 := hZ2.frozen 1
    have HZ2 := Lib.hid hZ2
    have HF2 := Lib.hid hF2
    have Hb2 : Hid (Below w.heap.size w w2) := by show Below _ _ _; (repeat' (first | (with_reducible exact Below.refl _ _) | (with_reducible assumption) | (with_reducible refine Below.alloc ?_ ?_ _) | (with_reducible refine Below.drew ?_) | (with_reducible refine below_drewN ?_ _) | (with_reducible refine Below.setCell ?_ ?_ _) | (with_reducible refine Below.trans ?_ (Below.mono (by assumption) ?_)) | (first | omega | (simp only [World.size_alloc, World.size_setCell, World.size_drew]; omega) | (simp; omega) | (simp; done))))
    clear hZ1 hZ2 hF2 hb1 hb2 hr1
    go_wp2
    refine ret_cell_tmp Tryz.results39 Tryz.underlying28 rfl (by kernel_rfl) rfl ((HZ2.out.set_ 0 (.int .i64 n)).set_ 1 (.slice A2 m c2)) rfl rfl ⟨⟨A2, c2, ?_, FrE.mono (n0 := w1.heap.size) ?_ (by omega)⟩, (Hb2.out.setCell (Nat.le_refl _) _).setCell (Nat.le_refl _) _⟩
    · show _ = Ending.returned (.tuple #[.agg #[_, .slice A2 (madeE es).length c2], _])
      rw [Hm.out]; rfl
    · exact HF2.out.away (((Only.refl _ _).set 0 _).set 1 _ : Only (some ⟨w.heap.size, 0, none⟩) w2 _) (by omega)
  · have hv : limV n es = (0, [], 3) := by unfold limV; rw [if_pos (by omega)]
    rw [hv]
    have g1 : decide (n > 20) = true := by simp; omega
    have hB : Blk (w.alloc (.cells #[.int .i64 0, .slice none 0 0] 28)) w.heap.size 28 #[.int .i64 0, .slice none 0 0] := Blk.new w _ _
    clear hp hv
    go_enter Tryz.func39, Tryz.ntmps39
    go_wp2
    refine ret_cell_tmp Tryz.results39 Tryz.underlying28 rfl (by kernel_rfl) rfl hB rfl rfl ⟨⟨none, 0, rfl, FrE.nil⟩, by (repeat' (first | (with_reducible exact Below.refl _ _) | (with_reducible assumption) | (with_reducible refine Below.alloc ?_ ?_ _) | (with_reducible refine Below.drew ?_) | (with_reducible refine below_drewN ?_ _) | (with_reducible refine Below.setCell ?_ ?_ _) | (with_reducible refine Below.trans ?_ (Below.mono (by assumption) ?_)) | (first | omega | (simp only [World.size_alloc, World.size_setCell, World.size_drew]; omega) | (simp; omega) | (simp; done))))⟩
end Go.Proofs.YtjgmoffkecnmcaaGreat
