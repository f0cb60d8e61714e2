/- The reference's near and close edges: l08Near, l08Close. -/
import Derived.Test.YtkpnplldnihalaaNe4
namespace Go.Proofs.Ytkpnplldnihalaa
open Go.RowKit
set_option linter.unusedSimpArgs false
set_option linter.unusedVariables false

set_option maxHeartbeats 2000000 in
theorem l08Near_b (n : Int) (A : Option Addr) (c : Nat) (es : List (Int × Int)) (i j : Nat) (w : World) (q : Bool) (hq : Hid (nearB (es.getD i (0, 0)) (es.getD j (0, 0)) = q)) (hi : i < es.length) (hj : j < es.length) (hl : es.length ≤ 1048576) (hr : RdE w A es) :
    Calls Try.prog 107 #[.agg #[.int .i64 n, .slice A es.length c], .int .i64 i, .int .i64 j] w fun e w' => e = .returned (.bool q) ∧ Below w.heap.size w w' := by
  obtain ⟨b, off, rfl, hb, hc⟩ := hr.pos (by omega)
  obtain ⟨ha0, ha1⟩ := hc i hi
  obtain ⟨hb0, hb1⟩ := hc j hj
  obtain ⟨⟨a0, a1⟩, Ha⟩ : ∃ x, Hid (es.getD i (0, 0) = x) := ⟨_, rfl⟩
  obtain ⟨⟨b0, b1⟩, Hb⟩ : ∃ x, Hid (es.getD j (0, 0) = x) := ⟨_, rfl⟩
  rw [Ha.out] at ha0 ha1 hq
  rw [Hb.out] at hb0 hb1 hq
  dsimp only at ha0 ha1 hb0 hb1
  clear hc hr Ha Hb
  generalize es.length = L at *
  have i0 : (0 : Int) ≤ i := by omega
  have i1 : (i : Int) < L := by omega
  have i2 : (i : Int).toNat = i := by omega
  have j0 : (0 : Int) ≤ j := by omega
  have j1 : (j : Int) < L := by omega
  have j2 : (j : Int).toNat = j := by omega
  obtain ⟨q1, h1⟩ : ∃ q, Hid (decide (a0 = b0) = q) := ⟨_, rfl⟩
  obtain ⟨q2, h2⟩ : ∃ q, Hid (decide (a0 = b1) = q) := ⟨_, rfl⟩
  obtain ⟨q3, h3⟩ : ∃ q, Hid (decide (a1 = b0) = q) := ⟨_, rfl⟩
  obtain ⟨q4, h4⟩ : ∃ q, Hid (decide (a1 = b1) = q) := ⟨_, rfl⟩
  have Hq : Hid ((q1 || q2 || q3 || q4) = q) := by
    show _ = _; rw [← hq.out, ← h1.out, ← h2.out, ← h3.out, ← h4.out]; simp only [nearB, onB]
    cases decide (a0 = b0) <;> cases decide (a0 = b1) <;> cases decide (a1 = b0) <;> cases decide (a1 = b1) <;> rfl
  have e1 : (a0 == b0) = q1 := by rw [← h1.out]; rfl
  have e2 : (a0 == b1) = q2 := by rw [← h2.out]; rfl
  have e3 : (a1 == b0) = q3 := by rw [← h3.out]; rfl
  have e4 : (a1 == b1) = q4 := by rw [← h4.out]; rfl
  clear hq h1 h2 h3 h4
  have n0 : b ≠ w.heap.size := by omega
  have n1 : b ≠ w.heap.size + 1 := by omega
  have n2 : b ≠ w.heap.size + 1 + 1 := by omega
  have n3 : b < w.heap.size + 1 := by omega
  have n4 : b < w.heap.size + 1 + 1 := by omega
  cases q1
  · cases q2
    · cases q3
      all_goals
        go_enter Try.func107, Try.ntmps107
        go_wp2
        go_region
        all_goals
          go_wp2
          go_ret
          exact ⟨by rw [← Hq.out]; simp <;> rfl, by (repeat' (first | (with_reducible exact Below.refl _ _) | (with_reducible assumption) | (with_reducible refine Below.alloc ?_ ?_ _) | (with_reducible refine Below.drew ?_) | (with_reducible refine below_drewN ?_ _) | (with_reducible refine Below.setCell ?_ ?_ _) | (with_reducible refine Below.trans ?_ (Below.mono (by assumption) ?_)) | (first | omega | (simp only [World.size_alloc, World.size_setCell, World.size_drew]; omega) | (simp; omega) | (simp; done))))⟩
    · go_enter Try.func107, Try.ntmps107
      go_wp2
      go_region
      all_goals
        go_wp2
        go_ret
        exact ⟨by rw [← Hq.out]; simp <;> rfl, by (repeat' (first | (with_reducible exact Below.refl _ _) | (with_reducible assumption) | (with_reducible refine Below.alloc ?_ ?_ _) | (with_reducible refine Below.drew ?_) | (with_reducible refine below_drewN ?_ _) | (with_reducible refine Below.setCell ?_ ?_ _) | (with_reducible refine Below.trans ?_ (Below.mono (by assumption) ?_)) | (first | omega | (simp only [World.size_alloc, World.size_setCell, World.size_drew]; omega) | (simp; omega) | (simp; done))))⟩
  · go_enter Try.func107, Try.ntmps107
    go_wp2
    go_region
    all_goals
      go_wp2
      go_ret
      exact ⟨by rw [← Hq.out]; simp <;> rfl, by (repeat' (first | (with_reducible exact Below.refl _ _) | (with_reducible assumption) | (with_reducible refine Below.alloc ?_ ?_ _) | (with_reducible refine Below.drew ?_) | (with_reducible refine below_drewN ?_ _) | (with_reducible refine Below.setCell ?_ ?_ _) | (with_reducible refine Below.trans ?_ (Below.mono (by assumption) ?_)) | (first | omega | (simp only [World.size_alloc, World.size_setCell, World.size_drew]; omega) | (simp; omega) | (simp; done))))⟩

set_option maxHeartbeats 2000000 in
theorem l08Close_b (n : Int) (A : Option Addr) (c : Nat) (es : List (Int × Int)) (i j : Nat) (w : World) (q : Bool) (hq : Hid (closeB es i j = q)) (hi : i < es.length) (hj : j < es.length) (hl : es.length ≤ 1048576) (hr : RdE w A es) :
    Calls Try.prog 108 #[.agg #[.int .i64 n, .slice A es.length c], .int .i64 i, .int .i64 j] w fun e w' => e = .returned (.bool q) ∧ Below w.heap.size w w' := by
  obtain ⟨q1, h1⟩ : ∃ q1, Hid (nearB (es.getD i (0, 0)) (es.getD j (0, 0)) = q1) := ⟨_, rfl⟩
  have k1 := fun W (hW : Below w.heap.size w W) => l08Near_b n A c es i j W q1 h1 hi hj hl (hr.below hW)
  have ki := fun h (hh : h < es.length) W (hW : Below w.heap.size w W) => l08Near_b n A c es i h W _ rfl hi hh hl (hr.below hW)
  have kj := fun h (hh : h < es.length) W (hW : Below w.heap.size w W) => l08Near_b n A c es j h W _ rfl hj hh hl (hr.below hW)
  have Hq : Hid ((q1 || (List.range es.length).any (midB es i j)) = q) := by show _ = _; rw [← hq.out, ← h1.out]; rfl
  clear hq h1 hr
  generalize hm : es.length = L at *
  clear hm
  cases q1
  · go_enter Try.func108, Try.ntmps108
    go_wp2_with fail
    refine (k1 _ (by (repeat' (first | (with_reducible exact Below.refl _ _) | (with_reducible assumption) | (with_reducible refine Below.alloc ?_ ?_ _) | (with_reducible refine Below.drew ?_) | (with_reducible refine below_drewN ?_ _) | (with_reducible refine Below.setCell ?_ ?_ _) | (with_reducible refine Below.trans ?_ (Below.mono (by assumption) ?_)) | (first | omega | (simp only [World.size_alloc, World.size_setCell, World.size_drew]; omega) | (simp; omega) | (simp; done)))))).mono ?_
    rintro e w1 ⟨rfl, hb1⟩
    simp only [World.size_alloc, World.size_setCell, World.size_drew] at hb1; have B1 : Below w.heap.size w w1 := by (repeat' (first | (with_reducible exact Below.refl _ _) | (with_reducible assumption) | (with_reducible refine Below.alloc ?_ ?_ _) | (with_reducible refine Below.drew ?_) | (with_reducible refine below_drewN ?_ _) | (with_reducible refine Below.setCell ?_ ?_ _) | (with_reducible refine Below.trans ?_ (Below.mono (by assumption) ?_)) | (first | omega | (simp only [World.size_alloc, World.size_setCell, World.size_drew]; omega) | (simp; omega) | (simp; done))))
    have K1 : Blk w1 w.heap.size 30 #[.int .i64 n, .slice A L c] := (Blk.new' _ rfl).below hb1 (by omega)
    have d10 := K1.cellAt 0 _ rfl; have d11 := K1.cellAt 1 _ rfl; have z1 := hb1.size; simp only [World.size_alloc, World.size_setCell, World.size_drew] at z1
    go_wp2_with fail
    clear k1 d10 d11 hb1
    go_loopw [7] (fun v wr => ∃ k : Nat, k ≤ L ∧ v = .int .i64 k ∧ Hid (∀ h, h < k → midB es i j h = false) ∧ Blk wr w.heap.size 30 #[.int .i64 n, .slice A L c] ∧ Below w.heap.size w wr) (fun v _ => L - (intOf v).toNat)
    case atStart => exact ⟨0, Nat.zero_le _, rfl, (by intro j hj; omega), K1, B1⟩
    case round =>
      obtain ⟨k, hk, rfl, hE, K, hbel⟩ := hrel
      have hsz := hbel.size
      have k0 := K.cellAt 0 _ rfl
      have k1 := K.cellAt 1 _ rfl
      have HK := Lib.hid K; clear K
      by_cases hlt : k < L
      · obtain ⟨q1, h1⟩ : ∃ q1, Hid (nearB (es.getD i (0, 0)) (es.getD k (0, 0)) = q1) := ⟨_, rfl⟩
        obtain ⟨q2, h2⟩ : ∃ q2, Hid (nearB (es.getD j (0, 0)) (es.getD k (0, 0)) = q2) := ⟨_, rfl⟩
        have Hm : Hid (midB es i j k = (q1 && q2)) := by show _ = _; rw [midB, h1.out, nearB_comm, h2.out]
        have ci := ki k hlt
        have cj := kj k hlt
        rw [h1.out] at ci
        rw [h2.out] at cj
        clear ki kj h1 h2
        cases q1
        · go_wp2_with fail
          refine (ci _ (by (repeat' (first | (with_reducible exact Below.refl _ _) | (with_reducible assumption) | (with_reducible refine Below.alloc ?_ ?_ _) | (with_reducible refine Below.drew ?_) | (with_reducible refine below_drewN ?_ _) | (with_reducible refine Below.setCell ?_ ?_ _) | (with_reducible refine Below.trans ?_ (Below.mono (by assumption) ?_)) | (first | omega | (simp only [World.size_alloc, World.size_setCell, World.size_drew]; omega) | (simp; omega) | (simp; done)))))).mono ?_
          rintro e w2 ⟨rfl, hb2⟩
          have K2 := HK.out.below hb2 HK.out.lt
          go_wp2
          refine ⟨⟨k + 1, by omega, by go_num, ?_, K2, by (repeat' (first | (with_reducible exact Below.refl _ _) | (with_reducible assumption) | (with_reducible refine Below.alloc ?_ ?_ _) | (with_reducible refine Below.drew ?_) | (with_reducible refine below_drewN ?_ _) | (with_reducible refine Below.setCell ?_ ?_ _) | (with_reducible refine Below.trans ?_ (Below.mono (by assumption) ?_)) | (first | omega | (simp only [World.size_alloc, World.size_setCell, World.size_drew]; omega) | (simp; omega) | (simp; done))))⟩, by simp [intOf]; omega⟩
          intro h hh
          by_cases e : h = k
          · subst e; exact Hm.out
          · exact hE.out h (by omega)
        · go_wp2_with fail
          refine (ci _ (by (repeat' (first | (with_reducible exact Below.refl _ _) | (with_reducible assumption) | (with_reducible refine Below.alloc ?_ ?_ _) | (with_reducible refine Below.drew ?_) | (with_reducible refine below_drewN ?_ _) | (with_reducible refine Below.setCell ?_ ?_ _) | (with_reducible refine Below.trans ?_ (Below.mono (by assumption) ?_)) | (first | omega | (simp only [World.size_alloc, World.size_setCell, World.size_drew]; omega) | (simp; omega) | (simp; done)))))).mono ?_
          rintro e w2 ⟨rfl, hb2⟩
          have K2 := HK.out.below hb2 HK.out.lt
          have e0 := K2.cellAt 0 _ rfl
          have e1 := K2.cellAt 1 _ rfl
          have z2 := hb2.size
          go_wp2_with fail
          refine (cj _ (by (repeat' (first | (with_reducible exact Below.refl _ _) | (with_reducible assumption) | (with_reducible refine Below.alloc ?_ ?_ _) | (with_reducible refine Below.drew ?_) | (with_reducible refine below_drewN ?_ _) | (with_reducible refine Below.setCell ?_ ?_ _) | (with_reducible refine Below.trans ?_ (Below.mono (by assumption) ?_)) | (first | omega | (simp only [World.size_alloc, World.size_setCell, World.size_drew]; omega) | (simp; omega) | (simp; done)))))).mono ?_
          rintro e w3 ⟨rfl, hb3⟩
          have K3 := K2.below hb3 K2.lt
          clear e0 e1
          cases q2
          · go_wp2
            refine ⟨⟨k + 1, by omega, by go_num, ?_, K3, by (repeat' (first | (with_reducible exact Below.refl _ _) | (with_reducible assumption) | (with_reducible refine Below.alloc ?_ ?_ _) | (with_reducible refine Below.drew ?_) | (with_reducible refine below_drewN ?_ _) | (with_reducible refine Below.setCell ?_ ?_ _) | (with_reducible refine Below.trans ?_ (Below.mono (by assumption) ?_)) | (first | omega | (simp only [World.size_alloc, World.size_setCell, World.size_drew]; omega) | (simp; omega) | (simp; done))))⟩, by simp [intOf]; omega⟩
            intro h hh
            by_cases e : h = k
            · subst e; exact Hm.out
            · exact hE.out h (by omega)
          · go_wp2
            go_ret
            refine ⟨?_, by (repeat' (first | (with_reducible exact Below.refl _ _) | (with_reducible assumption) | (with_reducible refine Below.alloc ?_ ?_ _) | (with_reducible refine Below.drew ?_) | (with_reducible refine below_drewN ?_ _) | (with_reducible refine Below.setCell ?_ ?_ _) | (with_reducible refine Below.trans ?_ (Below.mono (by assumption) ?_)) | (first | omega | (simp only [World.size_alloc, World.size_setCell, World.size_drew]; omega) | (simp; omega) | (simp; done))))⟩
            have : (List.range L).any (midB es i j) = true := by
              rw [List.any_eq_true]
              exact ⟨k, by simpa using hlt, Hm.out⟩
            rw [← Hq.out, this]; rfl
      · obtain rfl : k = L := by omega
        go_wp2
        go_ret
        refine ⟨?_, hbel⟩
        have : (List.range k).any (midB es i j) = false := by
          rw [List.any_eq_false]
          intro h hh
          rw [hE.out h (by simpa using hh)]; simp
        rw [← Hq.out, this]; rfl
  · go_enter Try.func108, Try.ntmps108
    go_wp2_with fail
    refine (k1 _ (by (repeat' (first | (with_reducible exact Below.refl _ _) | (with_reducible assumption) | (with_reducible refine Below.alloc ?_ ?_ _) | (with_reducible refine Below.drew ?_) | (with_reducible refine below_drewN ?_ _) | (with_reducible refine Below.setCell ?_ ?_ _) | (with_reducible refine Below.trans ?_ (Below.mono (by assumption) ?_)) | (first | omega | (simp only [World.size_alloc, World.size_setCell, World.size_drew]; omega) | (simp; omega) | (simp; done)))))).mono ?_
    rintro e w1 ⟨rfl, hb1⟩
    go_wp2
    go_ret
    exact ⟨by rw [← Hq.out]; simp, by (repeat' (first | (with_reducible exact Below.refl _ _) | (with_reducible assumption) | (with_reducible refine Below.alloc ?_ ?_ _) | (with_reducible refine Below.drew ?_) | (with_reducible refine below_drewN ?_ _) | (with_reducible refine Below.setCell ?_ ?_ _) | (with_reducible refine Below.trans ?_ (Below.mono (by assumption) ?_)) | (first | omega | (simp only [World.size_alloc, World.size_setCell, World.size_drew]; omega) | (simp; omega) | (simp; done))))⟩
end Go.Proofs.Ytkpnplldnihalaa
