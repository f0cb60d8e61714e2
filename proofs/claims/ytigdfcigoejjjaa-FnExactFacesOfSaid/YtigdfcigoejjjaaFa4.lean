/- The program's directed edges: the end of one, the one behind it. No statement of the program is proved here. -/
import Derived.Test.YtigdfcigoejjjaaFa2
import Derived.Test.YtigdfcigoejjjaaMp1
namespace Go.Proofs.Ytigdfcigoejjjaa
open Go.RowKit
set_option linter.unusedSimpArgs false
set_option linter.unusedVariables false
set_option maxRecDepth 20000

set_option maxHeartbeats 1000000 in
theorem index3_b (A : Option Addr) (c : Nat) (X : List Int) (e : Int) (p : Nat) (w : World) (h3 : X.length = 3) (hp : p < 3) (hXp : X.getD p 0 = e) (hXn : ∀ j, j < p → X.getD j 0 ≠ e) (hr : RdI w A X) :
    Calls Try.prog 113 #[.slice A 3 c, .int .i64 e] w fun r w' => r = .returned (.int .i64 p) ∧ w = w' := by
  obtain ⟨b, off, rfl, hb, hc⟩ := hr.pos (by omega)
  have Hc := Lib.hid hc
  have HX3 := Lib.hid h3
  have HXp := Lib.hid hXp
  have HXn := Lib.hid hXn
  clear hr hc h3 hXp hXn
  go_enter Try.func113, Try.ntmps113
  go_wp2
  go_loopw [8] (fun i wr => ∃ k : Nat, k ≤ p ∧ i = .int .i64 k ∧ w = wr) (fun i _ => 3 - (intOf i).toNat)
  case atStart => exact ⟨0, Nat.zero_le _, rfl, rfl⟩
  case round =>
    obtain ⟨k, hk, rfl, rfl⟩ := hrel
    have hk3 : k < 3 := by omega
    have hck := Hc.out k (by rw [HX3.out]; exact hk3)
    obtain ⟨ek, ek2, ek3⟩ := idxF k 3 hk3
    by_cases hkp : k = p
    · subst hkp
      rw [HXp.out] at hck
      go_wp2
      go_ret
      exact ⟨rfl, rfl⟩
    · have hne := HXn.out k (by omega)
      obtain ⟨x, Hxk⟩ : ∃ x, Hid (X.getD k 0 = x) := ⟨_, rfl⟩
      rw [Hxk.out] at hck hne
      have hnb : (e == x) = false := by simp; omega
      clear hne
      go_wp2
      exact ⟨⟨k + 1, by omega, by go_num, trivial⟩, by simp [intOf]; omega⟩

set_option maxHeartbeats 1000000 in
theorem end_b (n : Int) (A : Option Addr) (c : Nat) (es : List (Int × Int)) (d : Nat) (w : World) (hd : d < 2 * es.length) (hr : RdE w A es) :
    Calls Try.prog 111 #[.agg #[.int .i64 n, .slice A es.length c], dirV d] w fun e w' => e = .returned (.int .i64 (endD es d)) ∧ Below w.heap.size w w' := by
  have he : d / 2 < es.length := by omega
  obtain ⟨b, off, rfl, hb, hc⟩ := hr.pos (by omega)
  obtain ⟨hc0, hc1⟩ := hc (d / 2) he
  clear hc hr hd
  obtain ⟨⟨x, y⟩, Hxy⟩ : ∃ xy, Hid (es.getD (d / 2) (0, 0) = xy) := ⟨_, rfl⟩
  rw [Hxy.out] at hc0 hc1
  dsimp only at hc0 hc1
  have hE : Hid (endD es d = if d % 2 = 1 then x else y) := by show _ = _; rw [endD, Hxy.out]
  generalize es.length = L at *
  obtain ⟨e0, He0⟩ : ∃ e0, Hid (d / 2 = e0) := ⟨_, rfl⟩
  unfold dirV
  rw [He0.out] at hc0 hc1 he ⊢
  obtain ⟨ee, ee2, ee3⟩ := idxF e0 L he
  rw [hE.out]
  rcases Nat.mod_two_eq_zero_or_one d with hm | hm
  all_goals
    rw [hm]
    simp only [Nat.reduceEqDiff, Nat.reduceBEq, if_true, if_false, beq_self_eq_true]
    go_enter Try.func111, Try.ntmps111
    go_wp2
    go_ret
    exact ⟨rfl, by (repeat' (first | (with_reducible exact Below.refl _ _) | (with_reducible assumption) | (with_reducible refine Below.alloc ?_ ?_ _) | (with_reducible refine Below.drew ?_) | (with_reducible refine below_drewN ?_ _) | (with_reducible refine Below.setCell ?_ ?_ _) | (with_reducible refine Below.trans ?_ (Below.mono (by assumption) ?_)) | (first | omega | (simp only [World.size_alloc, World.size_setCell, World.size_drew]; omega) | (simp; omega) | (simp; done))))⟩
theorem dirV_nx (es : List (Int × Int)) (rot : List Int) (d : Nat) : dirV (nxD es rot d) = .agg #[.int .i64 ((nextE es rot d : Nat) : Int), .bool ((es.getD (nextE es rot d) (0, 0)).2 == endD es d)] := by
  unfold dirV nxD
  by_cases h : (es.getD (nextE es rot d) (0, 0)).2 = endD es d
  · rw [if_pos h, show (2 * nextE es rot d + 1) / 2 = nextE es rot d by omega, show (2 * nextE es rot d + 1) % 2 = 1 by omega, h]
    simp
  · rw [if_neg h, show (2 * nextE es rot d + 0) / 2 = nextE es rot d by omega, show (2 * nextE es rot d + 0) % 2 = 0 by omega]
    have : ((es.getD (nextE es rot d) (0, 0)).2 == endD es d) = false := by simpa using h
    rw [this]; simp
set_option maxHeartbeats 4000000 in
theorem behind_b (n : Int) (A : Option Addr) (c : Nat) (es : List (Int × Int)) (B : Option Addr) (cb : Nat) (rot : List Int) (d : Nat) (w : World) (hg : isGraphB n es = true) (hd : d < 2 * es.length) (hrot : IsRot n rot) (hl : es.length ≤ 1000) (hr : RdE w A es) (hx : RdI w B rot) :
    Calls Try.prog 71 #[.agg #[.int .i64 n, .slice A es.length c], .slice B rot.length cb, dirV d] w fun e w' => e = .returned (dirV (nxD es rot d)) ∧ Below w.heap.size w w' := by
  obtain ⟨X, p, v, r, hX, hX3, hp, hXp, hXn, hXi, hv, hvn, hrv, hr2, hnx⟩ := pos_facts hg hrot hd
  have hq3 : (p + 1 + r) % 3 < 3 := Nat.mod_lt _ (by decide)
  obtain ⟨ne, hne, hneL⟩ := hXi _ hq3
  have hne2 : nextE es rot d = ne := by omega
  have ce := Lib.hid fun W (hW : Below w.heap.size w W) => end_b n A c es d W hd (hr.below hW)
  have ca := Lib.hid fun W (hW : Below w.heap.size w W) => at_own n A c es (endD es d) W (by omega) (hr.below hW)
  have cx := Lib.hid fun (A' : Option Addr) (c' : Nat) W (hW : RdI W A' X) => index3_b A' c' X ((d / 2 : Nat) : Int) p W hX3 hp hXp hXn hW
  rw [hv] at hX ce
  simp only [hv, hX, hX3] at ca
  rw [dirV_nx, hne2, hv]
  have Hre := Lib.hid fun W (hW : Below w.heap.size w W) => hr.below hW
  have Hx := Lib.hid fun W (hW : Below w.heap.size w W) => hx.below hW
  have hrl : rot.length = n.toNat := hrot.1
  have hdw : (d % 2 == 1) = true ∨ (d % 2 == 1) = false := by cases (d % 2 == 1) <;> simp
  obtain ⟨⟨x, y⟩, Hxy⟩ : ∃ xy, Hid (es.getD ne (0, 0) = xy) := ⟨_, rfl⟩
  rw [Hxy.out]
  have Hcn : Hid (X.getD ((p + 1 + r) % 3) 0 = (ne : Int)) := hne
  have HX3 := Lib.hid hX3
  have Hrv := Lib.hid hrv
  have Hvl : Hid (v < rot.length) := by show _ < _; omega
  obtain ⟨M, HM⟩ : ∃ M, Hid (rot.length = M) := ⟨_, rfl⟩
  have hvM : v < M := by rw [← HM.out]; exact Hvl.out
  simp only [HM.out]
  have HnL : Hid (ne < es.length) := hneL
  obtain ⟨L, HL⟩ : ∃ L, Hid (es.length = L) := ⟨_, rfl⟩
  rw [HL.out] at hneL
  simp only [HL.out] at ce ca ⊢
  unfold dirV at ce ⊢
  clear hr hx hg hd hrot hl hX hX3 hXp hXn hXi hv hvn hnx hrl hrv hne hne2
  obtain ⟨ev, ev2, ev3⟩ := idxF v M hvM
  obtain ⟨en, en2, en3⟩ := idxF ne L hneL
  obtain ⟨e0, He0⟩ : ∃ e0, Hid (d / 2 = e0) := ⟨_, rfl⟩
  rw [He0.out] at ce cx ⊢
  obtain ⟨bk, Hbk⟩ : ∃ bk, Hid ((d % 2 == 1) = bk) := ⟨_, rfl⟩
  rw [Hbk.out] at ce ⊢
  clear hdw
  obtain ⟨q, Hq⟩ : ∃ q, Hid ((p + 1 + r) % 3 = q) := ⟨_, rfl⟩
  rw [Hq.out] at hq3 Hcn
  have ht : ((p : Int) + (1 + (r : Int))).tmod 3 = (q : Int) := by rw [Int.tmod_eq_emod_of_nonneg (by omega), ← Hq.out]; omega
  obtain ⟨eq1, eq2, eq3⟩ := idxF q 3 hq3
  have K0 : Blk (((w.alloc (.cells #[.int .i64 n, .slice A L c] 32)).alloc (.cells #[.int .i64 e0, .bool bk] 92)).alloc (.cells #[.int .i64 0, .bool false] 92)) w.heap.size 32 #[.int .i64 n, .slice A L c] := ((Blk.new w _ _).alloc _).alloc _
  have D0 : Blk (((w.alloc (.cells #[.int .i64 n, .slice A L c] 32)).alloc (.cells #[.int .i64 e0, .bool bk] 92)).alloc (.cells #[.int .i64 0, .bool false] 92)) (w.heap.size + 1) 92 #[.int .i64 e0, .bool bk] := (Blk.new' _ (by simp)).alloc _
  have R0 : Blk (((w.alloc (.cells #[.int .i64 n, .slice A L c] 32)).alloc (.cells #[.int .i64 e0, .bool bk] 92)).alloc (.cells #[.int .i64 0, .bool false] 92)) (w.heap.size + 2) 92 #[.int .i64 0, .bool false] := Blk.new' _ (by simp)
  have B0 : Below w.heap.size w (((w.alloc (.cells #[.int .i64 n, .slice A L c] 32)).alloc (.cells #[.int .i64 e0, .bool bk] 92)).alloc (.cells #[.int .i64 0, .bool false] 92)) := by (repeat' (first | (with_reducible exact Below.refl _ _) | (with_reducible assumption) | (with_reducible refine Below.alloc ?_ ?_ _) | (with_reducible refine Below.drew ?_) | (with_reducible refine below_drewN ?_ _) | (with_reducible refine Below.setCell ?_ ?_ _) | (with_reducible refine Below.trans ?_ (Below.mono (by assumption) ?_)) | (first | omega | (simp only [World.size_alloc, World.size_setCell, World.size_drew]; omega) | (simp; omega) | (simp; done))))
  have HK0 := Lib.hid K0; have HD0 := Lib.hid D0; have HR0 := Lib.hid R0; have HB0 := Lib.hid B0
  clear K0 D0 R0 B0
  go_enter Try.func71, Try.ntmps71
  go_wp2_with fail
  generalize ((w.alloc (.cells #[.int .i64 n, .slice A L c] 32)).alloc (.cells #[.int .i64 e0, .bool bk] 92)).alloc (.cells #[.int .i64 0, .bool false] 92) = W0 at *
  refine (ce.out _ HB0.out).mono ?_
  rintro e w1 ⟨rfl, hb1⟩
  have HK1 := Lib.hid (HK0.out.below hb1 HK0.out.lt)
  have HD1 := Lib.hid (HD0.out.below hb1 HD0.out.lt)
  have HR1 := Lib.hid (HR0.out.below hb1 HR0.out.lt)
  have HB1 := Lib.hid (HB0.out.trans (hb1.mono HB0.out.size))
  have k10 := HK1.out.cellAt 0 _ rfl
  have k11 := HK1.out.cellAt 1 _ rfl
  clear HK0 HD0 HR0 HB0 hb1
  go_wp2_with fail
  refine (ca.out _ HB1.out).mono ?_
  rintro e w2 ⟨A1, c1, rfl, hown2, hb2⟩
  have HX2 := Lib.hid (own_rdI hown2)
  have HK2 := Lib.hid (HK1.out.below hb2 HK1.out.lt)
  have HD2 := Lib.hid (HD1.out.below hb2 HD1.out.lt)
  have HR2 := Lib.hid (HR1.out.below hb2 HR1.out.lt)
  have HB2 := Lib.hid (HB1.out.trans (hb2.mono HB1.out.size))
  obtain ⟨bB, oB, rfl, hbB, hcB⟩ := (Hx.out w2 HB2.out).pos (by have := Hvl.out; omega)
  have hcv := hcB v Hvl.out
  rw [Hrv.out] at hcv
  obtain ⟨bX, oX, rfl, hbX, hcX⟩ := HX2.out.pos (by rw [HX3.out]; omega)
  have hcq := hcX q (by rw [HX3.out]; exact hq3)
  rw [Hcn.out] at hcq
  obtain ⟨bE, oE, rfl, hbE, hcE⟩ := (Hre.out w2 HB2.out).pos (by have := HnL.out; omega)
  obtain ⟨hc0, hc1⟩ := hcE ne HnL.out
  rw [Hxy.out] at hc0 hc1
  dsimp only at hc0 hc1
  have k20 := HK2.out.cellAt 0 _ rfl
  have k21 := HK2.out.cellAt 1 _ rfl
  have d20 := HD2.out.cellAt 0 _ rfl
  have d21 := HD2.out.cellAt 1 _ rfl
  have cx2 := cx.out _ c1 w2 HX2.out
  have f0 := HR2.out.frozen 0
  have f1 := HR2.out.frozen 1
  have r0 := HR2.out.cellAt 0 _ rfl
  have r1 := HR2.out.cellAt 1 _ rfl
  clear HK1 HD1 HR1 HB1 hb2 hown2 hcB hcX hcE k10 k11
  go_wp2_with fail
  refine cx2.mono ?_
  rintro e w3 ⟨rfl, rfl⟩
  go_wp2
  refine ret_cell Try.results71 Try.underlying92 rfl (by kernel_rfl) rfl ((HR2.out.set_ 0 (.int .i64 ne)).set_ 1 (.bool (y == (v : Int)))) rfl rfl ⟨rfl, ?_⟩
  exact (HB2.out.setCell (by show w.heap.size ≤ w.heap.size + 2; omega) _).setCell (by show w.heap.size ≤ w.heap.size + 2; omega) _
end Go.Proofs.Ytigdfcigoejjjaa
