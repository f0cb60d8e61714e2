/- The reference's edges at a vertex, its other end. No statement of the program is proved here. -/
/- cycle. No statement of the program is proved here. -/
import Derived.Test.YtjgmoffkecnmcaaGreatAt
import Derived.Test.YtjgmoffkecnmcaaGreatAp1
import Derived.Test.YtjgmoffkecnmcaaGreatGo1
import Derived.Test.YtjgmoffkecnmcaaGreatFl1
import Derived.Test.YtjgmoffkecnmcaaGreatBr2
namespace Go.Proofs.YtjgmoffkecnmcaaGreat
open Go.RowKit
set_option linter.unusedSimpArgs false
set_option linter.unusedVariables false
set_option maxRecDepth 20000

set_option maxHeartbeats 4000000 in
theorem l01At_b (n : Int) (A : Option Addr) (c : Nat) (es : List (Int × Int)) (v : Int) (w : World) (hl : es.length ≤ 1000) (hr : RdE w A es) :
    Calls Tryz.prog 43 #[.agg #[.int .i64 n, .slice A es.length c], .int .i64 v] w fun e w' => ∃ A' c', e = .returned (.slice A' (atL es v).length c') ∧ w'.ownsRow w.heap.size 2 1 (.slice A' (atL es v).length c') (atL es v).length (cI (atL es v)) ∧ Below w.heap.size w w' := by
  have Hre : Hid (∀ W, Below w.heap.size w W → RdE W A es) := fun W hW => hr.below hW
  obtain ⟨L, Hm⟩ : ∃ L, Hid (es.length = L) := ⟨_, rfl⟩
  have hat : Hid (atL es v = atTo es v L) := by show _ = _; rw [atL, Hm.out]
  rw [Hm.out] at hl ⊢
  clear hr
  go_enter Tryz.func43, Tryz.ntmps43
  go_wp2
  go_loopw [5, 6] (fun s i wr => ∃ k : Nat, k ≤ L ∧ i = .int .i64 k ∧ Hid (wr.ownsRow (w.heap.size + 1) 2 1 s (atTo es v k).length (cI (atTo es v k))) ∧ Hid (Blk wr w.heap.size 28 #[.int .i64 n, .slice A L c]) ∧ Hid (Below w.heap.size w wr)) (fun _ i _ => L - (intOf i).toNat)
  case atStart => exact ⟨0, Nat.zero_le _, rfl, own_mono (own_blk (xs := []) (Blk.new' (n := w.heap.size + 1) (t := 2) (cs := #[]) _ (by simp)) (by simp [atTo, nbrTo]) (by decide)) (Nat.le_refl _), (Blk.new w _ _).alloc _, by show Below _ _ _; (repeat' (first | (with_reducible exact Below.refl _ _) | (with_reducible assumption) | (with_reducible refine Below.alloc ?_ ?_ _) | (with_reducible refine Below.drew ?_) | (with_reducible refine below_drewN ?_ _) | (with_reducible refine Below.setCell ?_ ?_ _) | (with_reducible refine Below.trans ?_ (Below.mono (by assumption) ?_)) | (first | omega | (simp only [World.size_alloc, World.size_setCell, World.size_drew]; omega) | (simp; omega) | (simp; done))))⟩
  case round =>
    obtain ⟨k, hk, rfl, Hown, HK, Hbel⟩ := hrel
    obtain ⟨A', c', rfl⟩ := own_form Hown.out
    have hsz := HK.out.lt
    have k0 := HK.out.cellAt 1 _ rfl
    by_cases hlt : k < L
    · obtain ⟨b, off, rfl, hb, hc⟩ := (Hre.out wr Hbel.out).pos (by have := Hm.out; omega)
      obtain ⟨hc0, hc1⟩ := hc k (by have := Hm.out; omega)
      obtain ⟨⟨x, y⟩, Hx⟩ : ∃ x, Hid (es.getD k (0, 0) = x) := ⟨_, rfl⟩
      rw [Hx.out] at hc0 hc1
      dsimp only at hc0 hc1
      clear hc
      obtain ⟨ek, ek2, ek3⟩ := idxF k L hlt
      have hnl : Hid ((atTo es v k).length ≤ k) := nbrTo_len _ _ _
      have hon : onB (es.getD k (0, 0)) v = ((x == v) || (y == v)) := by rw [Hx.out]; rfl
      have Hyes : Hid (((x == v) || (y == v)) = true → atTo es v k ++ [(k : Int)] = atTo es v (k + 1)) := fun h => nbrTo_yes (are := fun _ j => onB (es.getD j (0, 0)) v) (i := 0) (hon.trans h)
      have Hno : Hid (((x == v) || (y == v)) = false → atTo es v k = atTo es v (k + 1)) := fun h => nbrTo_no (are := fun _ j => onB (es.getD j (0, 0)) v) (i := 0) (hon.trans h)
      clear hon
      cases q1 : (x == v)
      · cases q2 : (y == v)
        · have Hn := Lib.hid (Hno.out (by rw [q1, q2]; rfl))
          clear Hyes Hno
          go_wp2
          refine ⟨⟨k + 1, by omega, by go_num, ?_, HK, Hbel⟩, by simp [intOf]; omega⟩
          rw [← Hn.out]; exact Hown
        · have Hn := Lib.hid (Hyes.out (by rw [q1, q2]; rfl))
          clear Hyes Hno
          have hown2 := own_below Hown.out (show Below wr.heap.size wr (wr.alloc (.cells #[.int .i64 (k : Int)] 2)) by (repeat' (first | (with_reducible exact Below.refl _ _) | (with_reducible assumption) | (with_reducible refine Below.alloc ?_ ?_ _) | (with_reducible refine Below.drew ?_) | (with_reducible refine below_drewN ?_ _) | (with_reducible refine Below.setCell ?_ ?_ _) | (with_reducible refine Below.trans ?_ (Below.mono (by assumption) ?_)) | (first | omega | (simp only [World.size_alloc, World.size_setCell, World.size_drew]; omega) | (simp; omega) | (simp; done)))))
          have hB3 : Below w.heap.size w (wr.alloc (.cells #[.int .i64 (k : Int)] 2)) := by have := Hbel.out; (repeat' (first | (with_reducible exact Below.refl _ _) | (with_reducible assumption) | (with_reducible refine Below.alloc ?_ ?_ _) | (with_reducible refine Below.drew ?_) | (with_reducible refine below_drewN ?_ _) | (with_reducible refine Below.setCell ?_ ?_ _) | (with_reducible refine Below.trans ?_ (Below.mono (by assumption) ?_)) | (first | omega | (simp only [World.size_alloc, World.size_setCell, World.size_drew]; omega) | (simp; omega) | (simp; done))))
          go_wp2_with (first
            | (at_builtin; refine wpList_append1 rfl rfl (w.heap.size + 1) _ (atTo es v k).length (atTo es v k) rfl hown2 ⟨wr.heap.size, 0, none⟩ 1 (k : Int) rfl (by simp) (by have := hnl.out; omega) (by simp; omega) ?_))
          intro g c9 w3 hown3 hfr
          have Hb3 : Hid (Below w.heap.size w w3) := hfr w.heap.size w (by omega) hB3
          have HK3 : Hid (Blk w3 w.heap.size 28 #[.int .i64 n, .slice (some ⟨b, off, none⟩) L c]) := (HK.out.alloc _).below (hfr (w.heap.size + 1) _ (Nat.le_refl _) (Below.refl _ _)) (by omega)
          have Hown3 : Hid (w3.ownsRow (w.heap.size + 1) 2 1 (.slice (some ⟨g, 0, none⟩) ((atTo es v k).length + 1) c9) (atTo es v (k + 1)).length (cI (atTo es v (k + 1)))) := by
            show World.ownsRow _ _ _ _ _ _ _
            rw [← Hn.out, List.length_append]
            exact hown3
          clear hown3 hfr hown2 hB3 Hown HK Hbel k0 hc0 hc1
          go_wp2
          exact ⟨⟨k + 1, by omega, by go_num, Hown3, HK3, Hb3⟩, by simp [intOf]; omega⟩
      · have Hn := Lib.hid (Hyes.out (by rw [q1]; rfl))
        clear Hyes Hno
        have hown2 := own_below Hown.out (show Below wr.heap.size wr (wr.alloc (.cells #[.int .i64 (k : Int)] 2)) by (repeat' (first | (with_reducible exact Below.refl _ _) | (with_reducible assumption) | (with_reducible refine Below.alloc ?_ ?_ _) | (with_reducible refine Below.drew ?_) | (with_reducible refine below_drewN ?_ _) | (with_reducible refine Below.setCell ?_ ?_ _) | (with_reducible refine Below.trans ?_ (Below.mono (by assumption) ?_)) | (first | omega | (simp only [World.size_alloc, World.size_setCell, World.size_drew]; omega) | (simp; omega) | (simp; done)))))
        have hB3 : Below w.heap.size w (wr.alloc (.cells #[.int .i64 (k : Int)] 2)) := by have := Hbel.out; (repeat' (first | (with_reducible exact Below.refl _ _) | (with_reducible assumption) | (with_reducible refine Below.alloc ?_ ?_ _) | (with_reducible refine Below.drew ?_) | (with_reducible refine below_drewN ?_ _) | (with_reducible refine Below.setCell ?_ ?_ _) | (with_reducible refine Below.trans ?_ (Below.mono (by assumption) ?_)) | (first | omega | (simp only [World.size_alloc, World.size_setCell, World.size_drew]; omega) | (simp; omega) | (simp; done))))
        go_wp2_with (first
          | (at_builtin; refine wpList_append1 rfl rfl (w.heap.size + 1) _ (atTo es v k).length (atTo es v k) rfl hown2 ⟨wr.heap.size, 0, none⟩ 1 (k : Int) rfl (by simp) (by have := hnl.out; omega) (by simp; omega) ?_))
        intro g c9 w3 hown3 hfr
        have Hb3 : Hid (Below w.heap.size w w3) := hfr w.heap.size w (by omega) hB3
        have HK3 : Hid (Blk w3 w.heap.size 28 #[.int .i64 n, .slice (some ⟨b, off, none⟩) L c]) := (HK.out.alloc _).below (hfr (w.heap.size + 1) _ (Nat.le_refl _) (Below.refl _ _)) (by omega)
        have Hown3 : Hid (w3.ownsRow (w.heap.size + 1) 2 1 (.slice (some ⟨g, 0, none⟩) ((atTo es v k).length + 1) c9) (atTo es v (k + 1)).length (cI (atTo es v (k + 1)))) := by
          show World.ownsRow _ _ _ _ _ _ _
          rw [← Hn.out, List.length_append]
          exact hown3
        clear hown3 hfr hown2 hB3 Hown HK Hbel k0 hc0 hc1
        go_wp2
        exact ⟨⟨k + 1, by omega, by go_num, Hown3, HK3, Hb3⟩, by simp [intOf]; omega⟩
    · obtain rfl : k = L := by omega
      go_wp2
      go_ret
      rw [hat.out]
      exact ⟨A', c', rfl, own_mono Hown.out (by omega), Hbel.out⟩

theorem l01Other_b (n : Int) (A : Option Addr) (c : Nat) (es : List (Int × Int)) (k : Nat) (v : Int) (w : World) (r : Int) (hr2 : Hid ((es.getD k (0, 0)).1 + (es.getD k (0, 0)).2 - v = r)) (hk : k < es.length) (hl : es.length ≤ 1000)
    (ha : 0 ≤ (es.getD k (0, 0)).1 ∧ (es.getD k (0, 0)).1 ≤ 1000) (hb : 0 ≤ (es.getD k (0, 0)).2 ∧ (es.getD k (0, 0)).2 ≤ 1000) (hv : 0 ≤ v ∧ v ≤ 1000) (hr : RdE w A es) :
    Calls Tryz.prog 44 #[.agg #[.int .i64 n, .slice A es.length c], .int .i64 k, .int .i64 v] w fun e w' => e = .returned (.int .i64 r) ∧ Below w.heap.size w w' := by
  obtain ⟨b, off, rfl, hb2, hc⟩ := hr.pos (by omega)
  obtain ⟨hc0, hc1⟩ := hc k hk
  obtain ⟨ek, ek2, ek3⟩ := idxF k es.length hk
  clear hc hr
  generalize es.length = L at *
  generalize es.getD k (0, 0) = xy at *
  obtain ⟨x, y⟩ := xy
  dsimp only at hc0 hc1 ha hb hr2
  obtain ⟨s, Hs⟩ : ∃ s, Hid (x + y = s) := ⟨_, rfl⟩
  have hs0 : 0 ≤ s ∧ s ≤ 2000 := by have := Hs.out; omega
  have W1 : Hid (IntKind.i64.wrap (x + y) = s) := by show _ = _; rw [IntWalk.i64_in _ (by omega)]; exact Hs.out
  have W2 : Hid (IntKind.i64.wrap (s - v) = r) := by show _ = _; rw [IntWalk.i64_in _ (by omega), ← Hs.out]; exact hr2.out
  clear hr2
  go_enter Tryz.func44, Tryz.ntmps44
  have d0 : (w.alloc (.cells #[.int .i64 n, .slice (some ⟨b, off, none⟩) L c] 28)).cell? ⟨b, off + k * 2, none⟩ = some (.int .i64 x) := by rw [((bcell (Below.alloc (Below.refl w.heap.size w) (Nat.le_refl _) _)).1 _ _ hb2)]; exact hc0
  have d1 : (w.alloc (.cells #[.int .i64 n, .slice (some ⟨b, off, none⟩) L c] 28)).cell? ⟨b, off + k * 2 + 1, none⟩ = some (.int .i64 y) := by rw [((bcell (Below.alloc (Below.refl w.heap.size w) (Nat.le_refl _) _)).1 _ _ hb2)]; exact hc1
  go_wp2
  have w1 := W1.out
  have w2 := W2.out
  go_quiet (fail)
  rename_i nq
  clear w1 w2
  go_wp2
  go_ret
  exact ⟨rfl, by (repeat' (first | (with_reducible exact Below.refl _ _) | (with_reducible assumption) | (with_reducible refine Below.alloc ?_ ?_ _) | (with_reducible refine Below.drew ?_) | (with_reducible refine below_drewN ?_ _) | (with_reducible refine Below.setCell ?_ ?_ _) | (with_reducible refine Below.trans ?_ (Below.mono (by assumption) ?_)) | (first | omega | (simp only [World.size_alloc, World.size_setCell, World.size_drew]; omega) | (simp; omega) | (simp; done))))⟩
end Go.Proofs.YtjgmoffkecnmcaaGreat
namespace Go.Proofs.YtjgmoffkecnmcaaGreat
open Go.RowKit
set_option linter.unusedSimpArgs false
set_option linter.unusedVariables false
set_option maxRecDepth 20000

def cycE (us : List Int) (k : Nat) : List (Int × Int) := (List.range k).map fun i => (us.getD i 0, us.getD ((i + 1) % us.length) 0)
theorem cycE_succ (us : List Int) (k : Nat) : cycE us (k + 1) = cycE us k ++ [(us.getD k 0, us.getD ((k + 1) % us.length) 0)] := by simp [cycE, List.range_succ]
theorem cycE_len (us : List Int) (k : Nat) : (cycE us k).length = k := by simp [cycE]

end Go.Proofs.YtjgmoffkecnmcaaGreat
