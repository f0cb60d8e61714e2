/- l01At, and set.has, for seats without the products. No statement of the program is proved here. -/
import Derived.Test.YtigdfcigoejjjaaAt
import Derived.Test.YtigdfcigoejjjaaAp1
import Derived.Test.YtigdfcigoejjjaaSe1
namespace Go.Proofs.Ytigdfcigoejjjaa
open Go.RowKit
set_option linter.unusedSimpArgs false
set_option linter.unusedVariables false
set_option maxRecDepth 20000

set_option maxHeartbeats 4000000 in
theorem l01At_b (n : Int) (A : Option Addr) (c : Nat) (es : List (Int × Int)) (v : Int) (w : World) (hl : es.length ≤ 1000) (hr : RdE w A es) :
    Calls Try.prog 102 #[.agg #[.int .i64 n, .slice A es.length c], .int .i64 v] w fun e w' => ∃ A' c', e = .returned (.slice A' (atL es v).length c') ∧ w'.ownsRow w.heap.size 2 1 (.slice A' (atL es v).length c') (atL es v).length (cI (atL es v)) ∧ Below w.heap.size w w' := by
  have Hre : Hid (∀ W, Below w.heap.size w W → RdE W A es) := fun W hW => hr.below hW
  obtain ⟨L, Hm⟩ : ∃ L, Hid (es.length = L) := ⟨_, rfl⟩
  have hat : Hid (atL es v = atTo es v L) := by show _ = _; rw [atL, Hm.out]
  rw [Hm.out] at hl ⊢
  clear hr
  go_enter Try.func102, Try.ntmps102
  go_wp2
  go_loopw [5, 6] (fun s i wr => ∃ k : Nat, k ≤ L ∧ i = .int .i64 k ∧ Hid (wr.ownsRow (w.heap.size + 1) 2 1 s (atTo es v k).length (cI (atTo es v k))) ∧ Hid (Blk wr w.heap.size 32 #[.int .i64 n, .slice A L c]) ∧ Hid (Below w.heap.size w wr)) (fun _ i _ => L - (intOf i).toNat)
  case atStart => exact ⟨0, Nat.zero_le _, rfl, own_mono (own_blk (xs := []) (Blk.new' (n := w.heap.size + 1) (t := 2) (cs := #[]) _ (by simp)) (by simp [atTo, nbrTo]) (by decide)) (Nat.le_refl _), (Blk.new w _ _).alloc _, by show Below _ _ _; (repeat' (first | (with_reducible exact Below.refl _ _) | (with_reducible assumption) | (with_reducible refine Below.alloc ?_ ?_ _) | (with_reducible refine Below.drew ?_) | (with_reducible refine below_drewN ?_ _) | (with_reducible refine Below.setCell ?_ ?_ _) | (with_reducible refine Below.trans ?_ (Below.mono (by assumption) ?_)) | (first | omega | (simp only [World.size_alloc, World.size_setCell, World.size_drew]; omega) | (simp; omega) | (simp; done))))⟩
  case round =>
    obtain ⟨k, hk, rfl, Hown, HK, Hbel⟩ := hrel
    obtain ⟨A', c', rfl⟩ := own_form Hown.out
    have hsz := HK.out.lt
    have k0 := HK.out.cellAt 1 _ rfl
    by_cases hlt : k < L
    · obtain ⟨b, off, rfl, hb, hc⟩ := (Hre.out wr Hbel.out).pos (by have := Hm.out; omega)
      obtain ⟨hc0, hc1⟩ := hc k (by have := Hm.out; omega)
      obtain ⟨⟨x, y⟩, Hx⟩ : ∃ x, Hid (es.getD k (0, 0) = x) := ⟨_, rfl⟩
      rw [Hx.out] at hc0 hc1
      dsimp only at hc0 hc1
      clear hc
      obtain ⟨ek, ek2, ek3⟩ := idxF k L hlt
      have hnl : Hid ((atTo es v k).length ≤ k) := nbrTo_len _ _ _
      have hon : onB (es.getD k (0, 0)) v = ((x == v) || (y == v)) := by rw [Hx.out]; rfl
      have Hyes : Hid (((x == v) || (y == v)) = true → atTo es v k ++ [(k : Int)] = atTo es v (k + 1)) := fun h => nbrTo_yes (are := fun _ j => onB (es.getD j (0, 0)) v) (i := 0) (hon.trans h)
      have Hno : Hid (((x == v) || (y == v)) = false → atTo es v k = atTo es v (k + 1)) := fun h => nbrTo_no (are := fun _ j => onB (es.getD j (0, 0)) v) (i := 0) (hon.trans h)
      clear hon
      cases q1 : (x == v)
      · cases q2 : (y == v)
        · have Hn := Lib.hid (Hno.out (by rw [q1, q2]; rfl))
          clear Hyes Hno
          go_wp2
          refine ⟨⟨k + 1, by omega, by go_num, ?_, HK, Hbel⟩, by simp [intOf]; omega⟩
          rw [← Hn.out]; exact Hown
        · have Hn := Lib.hid (Hyes.out (by rw [q1, q2]; rfl))
          clear Hyes Hno
          have hown2 := own_below Hown.out (show Below wr.heap.size wr (wr.alloc (.cells #[.int .i64 (k : Int)] 2)) by (repeat' (first | (with_reducible exact Below.refl _ _) | (with_reducible assumption) | (with_reducible refine Below.alloc ?_ ?_ _) | (with_reducible refine Below.drew ?_) | (with_reducible refine below_drewN ?_ _) | (with_reducible refine Below.setCell ?_ ?_ _) | (with_reducible refine Below.trans ?_ (Below.mono (by assumption) ?_)) | (first | omega | (simp only [World.size_alloc, World.size_setCell, World.size_drew]; omega) | (simp; omega) | (simp; done)))))
          have hB3 : Below w.heap.size w (wr.alloc (.cells #[.int .i64 (k : Int)] 2)) := by have := Hbel.out; (repeat' (first | (with_reducible exact Below.refl _ _) | (with_reducible assumption) | (with_reducible refine Below.alloc ?_ ?_ _) | (with_reducible refine Below.drew ?_) | (with_reducible refine below_drewN ?_ _) | (with_reducible refine Below.setCell ?_ ?_ _) | (with_reducible refine Below.trans ?_ (Below.mono (by assumption) ?_)) | (first | omega | (simp only [World.size_alloc, World.size_setCell, World.size_drew]; omega) | (simp; omega) | (simp; done))))
          go_wp2_with (first
            | (at_builtin; refine wpList_append1 rfl rfl (w.heap.size + 1) _ (atTo es v k).length (atTo es v k) rfl hown2 ⟨wr.heap.size, 0, none⟩ 1 (k : Int) rfl (by simp) (by have := hnl.out; omega) (by simp; omega) ?_))
          intro g c9 w3 hown3 hfr
          have Hb3 : Hid (Below w.heap.size w w3) := hfr w.heap.size w (by omega) hB3
          have HK3 : Hid (Blk w3 w.heap.size 32 #[.int .i64 n, .slice (some ⟨b, off, none⟩) L c]) := (HK.out.alloc _).below (hfr (w.heap.size + 1) _ (Nat.le_refl _) (Below.refl _ _)) (by omega)
          have Hown3 : Hid (w3.ownsRow (w.heap.size + 1) 2 1 (.slice (some ⟨g, 0, none⟩) ((atTo es v k).length + 1) c9) (atTo es v (k + 1)).length (cI (atTo es v (k + 1)))) := by
            show World.ownsRow _ _ _ _ _ _ _
            rw [← Hn.out, List.length_append]
            exact hown3
          clear hown3 hfr hown2 hB3 Hown HK Hbel k0 hc0 hc1
          go_wp2
          exact ⟨⟨k + 1, by omega, by go_num, Hown3, HK3, Hb3⟩, by simp [intOf]; omega⟩
      · have Hn := Lib.hid (Hyes.out (by rw [q1]; rfl))
        clear Hyes Hno
        have hown2 := own_below Hown.out (show Below wr.heap.size wr (wr.alloc (.cells #[.int .i64 (k : Int)] 2)) by (repeat' (first | (with_reducible exact Below.refl _ _) | (with_reducible assumption) | (with_reducible refine Below.alloc ?_ ?_ _) | (with_reducible refine Below.drew ?_) | (with_reducible refine below_drewN ?_ _) | (with_reducible refine Below.setCell ?_ ?_ _) | (with_reducible refine Below.trans ?_ (Below.mono (by assumption) ?_)) | (first | omega | (simp only [World.size_alloc, World.size_setCell, World.size_drew]; omega) | (simp; omega) | (simp; done)))))
        have hB3 : Below w.heap.size w (wr.alloc (.cells #[.int .i64 (k : Int)] 2)) := by have := Hbel.out; (repeat' (first | (with_reducible exact Below.refl _ _) | (with_reducible assumption) | (with_reducible refine Below.alloc ?_ ?_ _) | (with_reducible refine Below.drew ?_) | (with_reducible refine below_drewN ?_ _) | (with_reducible refine Below.setCell ?_ ?_ _) | (with_reducible refine Below.trans ?_ (Below.mono (by assumption) ?_)) | (first | omega | (simp only [World.size_alloc, World.size_setCell, World.size_drew]; omega) | (simp; omega) | (simp; done))))
        go_wp2_with (first
          | (at_builtin; refine wpList_append1 rfl rfl (w.heap.size + 1) _ (atTo es v k).length (atTo es v k) rfl hown2 ⟨wr.heap.size, 0, none⟩ 1 (k : Int) rfl (by simp) (by have := hnl.out; omega) (by simp; omega) ?_))
        intro g c9 w3 hown3 hfr
        have Hb3 : Hid (Below w.heap.size w w3) := hfr w.heap.size w (by omega) hB3
        have HK3 : Hid (Blk w3 w.heap.size 32 #[.int .i64 n, .slice (some ⟨b, off, none⟩) L c]) := (HK.out.alloc _).below (hfr (w.heap.size + 1) _ (Nat.le_refl _) (Below.refl _ _)) (by omega)
        have Hown3 : Hid (w3.ownsRow (w.heap.size + 1) 2 1 (.slice (some ⟨g, 0, none⟩) ((atTo es v k).length + 1) c9) (atTo es v (k + 1)).length (cI (atTo es v (k + 1)))) := by
          show World.ownsRow _ _ _ _ _ _ _
          rw [← Hn.out, List.length_append]
          exact hown3
        clear hown3 hfr hown2 hB3 Hown HK Hbel k0 hc0 hc1
        go_wp2
        exact ⟨⟨k + 1, by omega, by go_num, Hown3, HK3, Hb3⟩, by simp [intOf]; omega⟩
    · obtain rfl : k = L := by omega
      go_wp2
      go_ret
      rw [hat.out]
      exact ⟨A', c', rfl, own_mono Hown.out (by omega), Hbel.out⟩
theorem has_val {s u : Nat} (hs : s < 2 ^ 64) : (bits .and .u64 ((s : Int) / 2 ^ u) 1 == 1) = s.testBit u := by
  have h1 : (s : Int) / 2 ^ u = ((s / 2 ^ u : Nat) : Int) := by rw [Int.natCast_ediv, Int.natCast_pow]; rfl
  have h2 := andU (a := s / 2 ^ u) (b := 1) (Nat.lt_of_le_of_lt (Nat.div_le_self _ _) hs) (by decide)
  rw [h1, show (1 : Int) = ((1 : Nat) : Int) from rfl, h2, Nat.testBit_eq_decide_div_mod_eq, Nat.and_one_is_mod, Bool.eq_iff_iff]
  simp only [beq_iff_eq, decide_eq_true_eq]
  omega
set_option maxHeartbeats 2000000 in
theorem has_b (u s : Nat) (w : World) (q : Bool) (hq : Hid (s.testBit u = q)) (hu : u < 63) (hs : s < 2 ^ 63) :
    Calls Try.prog 115 #[.int .u64 s, .int .i64 u] w fun e w' => e = .returned (.bool q) ∧ w = w' := by
  have hv := has_val (s := s) (u := u) (Nat.lt_trans hs (by decide))
  rw [hq.out] at hv
  go_enter Try.func115, Try.ntmps115
  go_wp2
  go_ret
  first | exact ⟨rfl, rfl⟩ | exact ⟨by rw [hv]; rfl, rfl⟩ | (rw [hv]; exact ⟨rfl, rfl⟩)
end Go.Proofs.Ytigdfcigoejjjaa
