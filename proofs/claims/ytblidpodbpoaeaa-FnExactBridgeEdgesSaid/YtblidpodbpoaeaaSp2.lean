/- The reference's test of graphs: l01Ends, l01Is, l01Vertices. -/
import Derived.Test.YtblidpodbpoaeaaSp1
namespace Go.Proofs.Ytblidpodbpoaeaa
open Go.RowKit
set_option linter.unusedSimpArgs false
set_option linter.unusedVariables false

/-- The code of a size and edges. -/
def endsC (q : Bool) : Int := if q then 0 else 2
theorem areEdgesB_no {n : Int} {es : List (Int × Int)} (j : Nat) (hj : j < es.length) (h : edgeOK n (es.getD j (0, 0)).1 (es.getD j (0, 0)).2 = false) : areEdgesB n es = false := by
  cases hq : areEdgesB n es
  · rfl
  · simp only [areEdgesB, Bool.and_eq_true] at hq
    have := List.all_eq_true.1 hq.2.2 (es.getD j (0, 0)) (by
      simp only [List.getD_eq_getElem?_getD, List.getElem?_eq_getElem hj, Option.getD_some]; exact List.getElem_mem hj)
    rw [this] at h; cases h
theorem areEdgesB_yes {n : Int} {es : List (Int × Int)} (h1 : sizeB n = true) (h2 : (es.length : Int) = 3 * n / 2) (h : ∀ j, j < es.length → edgeOK n (es.getD j (0, 0)).1 (es.getD j (0, 0)).2 = true) : areEdgesB n es = true := by
  simp only [areEdgesB, Bool.and_eq_true, decide_eq_true_eq]
  refine ⟨h1, h2, List.all_eq_true.2 fun e he => ?_⟩
  obtain ⟨j, hj, rfl⟩ := List.getElem_of_mem he
  have := h j hj
  simpa only [List.getD_eq_getElem?_getD, List.getElem?_eq_getElem hj, Option.getD_some] using this

set_option maxHeartbeats 1000000 in
theorem l01Ends_b (n : Int) (A : Option Addr) (c : Nat) (es : List (Int × Int)) (w : World) (q : Bool) (hq : Hid (areEdgesB n es = q)) (hl : es.length ≤ 1048576) (hr : RdE w A es) :
    Calls Try.prog 88 #[.int .i64 n, .slice A es.length c] w fun e w' => e = .returned (.int .i64 (endsC q)) ∧ Below w.heap.size w w' := by
  obtain ⟨q1, h1⟩ : ∃ q1, Hid (inB n 2 20 = q1) := ⟨_, rfl⟩
  cases q1
  · have Hq : Hid (false = q) := by show _ = _; rw [← hq.out, areEdgesB, sizeB, h1.out]; rfl
    clear hq hr
    go_enter Try.func88, Try.ntmps88
    go_wp2_with (go_at_call 74; refine (l01In_b _ _ _ _ false h1).mono ?_; rintro e w1 ⟨rfl, rfl⟩)
    go_ret
    exact ⟨by rw [← Hq.out]; rfl, by (repeat' (first | (with_reducible exact Below.refl _ _) | (with_reducible assumption) | (with_reducible refine Below.alloc ?_ ?_ _) | (with_reducible refine Below.drew ?_) | (with_reducible refine below_drewN ?_ _) | (with_reducible refine Below.setCell ?_ ?_ _) | (with_reducible refine Below.trans ?_ (Below.mono (by assumption) ?_)) | (first | omega | (simp only [World.size_alloc, World.size_setCell, World.size_drew]; omega) | (simp; omega) | (simp; done))))⟩
  · obtain ⟨hn1, hn2⟩ := inB_true.1 h1.out
    by_cases h2 : n % 2 = 0
    · have hs : sizeB n = true := sizeB_true.2 ⟨⟨hn1, hn2⟩, h2⟩
      have g1 : (n % 2 == 0) = true := by simpa using h2
      have g2 : (n % 2 != 0) = false := by simpa using h2
      have H2 := Lib.hid h2; clear h2
      by_cases h3 : (es.length : Int) = 3 * n / 2
      · have g3 : ((es.length : Int) == 3 * n / 2) = true := by simpa using h3
        have g4 : ((es.length : Int) != 3 * n / 2) = false := by simpa using h3
        have H3 := Lib.hid h3; clear h3
        have Hs := Lib.hid hs; clear hs
        go_enter Try.func88, Try.ntmps88
        go_wp2_with (go_at_call 74; refine (l01In_b _ _ _ _ true h1).mono ?_; rintro e w1 ⟨rfl, rfl⟩)
        clear g1 g2 g3 g4
        generalize hm : es.length = m at *
        have Hm := Lib.hid hm; clear hm
        go_loopw [5] (fun i wr => ∃ k : Nat, k ≤ m ∧ i = .int .i64 k ∧ Hid (∀ j, j < k → edgeOK n (es.getD j (0, 0)).1 (es.getD j (0, 0)).2 = true) ∧ Below w.heap.size w wr) (fun i _ => m - (intOf i).toNat)
        case atStart => exact ⟨0, Nat.zero_le _, rfl, (by intro j hj; omega), by (repeat' (first | (with_reducible exact Below.refl _ _) | (with_reducible assumption) | (with_reducible refine Below.alloc ?_ ?_ _) | (with_reducible refine Below.drew ?_) | (with_reducible refine below_drewN ?_ _) | (with_reducible refine Below.setCell ?_ ?_ _) | (with_reducible refine Below.trans ?_ (Below.mono (by assumption) ?_)) | (first | omega | (simp only [World.size_alloc, World.size_setCell, World.size_drew]; omega) | (simp; omega) | (simp; done))))⟩
        case round =>
          obtain ⟨k, hk, rfl, hE, hbel⟩ := hrel
          have hsz := hbel.size
          by_cases hlt : k < m
          · obtain ⟨b, off, rfl, hb, hc⟩ := (hr.below hbel).pos (by have := Hm.out; omega)
            have hc0 := (hc k (by have := Hm.out; omega)).1
            have hc1 := (hc k (by have := Hm.out; omega)).2
            clear hc hr
            obtain ⟨x, y, Hx⟩ : ∃ x y, Hid (es.getD k (0, 0) = (x, y)) := ⟨_, _, rfl⟩
            rw [Hx.out] at hc0 hc1
            dsimp only at hc0 hc1
            obtain ⟨p1, P1⟩ : ∃ p1, Hid (inB x 0 (n - 1) = p1) := ⟨_, rfl⟩
            obtain ⟨p2, P2⟩ : ∃ p2, Hid (inB y 0 (n - 1) = p2) := ⟨_, rfl⟩
            have hno : edgeOK n x y = false → areEdgesB n es = false := fun h => areEdgesB_no k (by have := Hm.out; omega) (by rw [Hx.out]; exact h)
            have Hno := Lib.hid hno; clear hno
            cases p1
            · go_wp2
              have w1 : IntKind.i64.wrap (n - 1) = n - 1 := IntWalk.i64_in _ (by omega)
              go_quiet ((go_at_call 74; refine Calls.quiet_of_same (l01In_same _ _ _ _ false P1)))
              go_wp2
              go_ret
              refine ⟨?_, by (repeat' (first | (with_reducible exact Below.refl _ _) | (with_reducible assumption) | (with_reducible refine Below.alloc ?_ ?_ _) | (with_reducible refine Below.drew ?_) | (with_reducible refine below_drewN ?_ _) | (with_reducible refine Below.setCell ?_ ?_ _) | (with_reducible refine Below.trans ?_ (Below.mono (by assumption) ?_)) | (first | omega | (simp only [World.size_alloc, World.size_setCell, World.size_drew]; omega) | (simp; omega) | (simp; done))))⟩
              rw [← hq.out, Hno.out (by simp [edgeOK, P1.out])]; rfl
            · cases p2
              · go_wp2
                have w1 : IntKind.i64.wrap (n - 1) = n - 1 := IntWalk.i64_in _ (by omega)
                go_quiet ((first | (go_at_call 74; refine Calls.quiet_of_same (l01In_same _ _ _ _ true P1)) | (go_at_call 74; refine Calls.quiet_of_same (l01In_same _ _ _ _ false P2))))
                go_wp2
                go_ret
                refine ⟨?_, by (repeat' (first | (with_reducible exact Below.refl _ _) | (with_reducible assumption) | (with_reducible refine Below.alloc ?_ ?_ _) | (with_reducible refine Below.drew ?_) | (with_reducible refine below_drewN ?_ _) | (with_reducible refine Below.setCell ?_ ?_ _) | (with_reducible refine Below.trans ?_ (Below.mono (by assumption) ?_)) | (first | omega | (simp only [World.size_alloc, World.size_setCell, World.size_drew]; omega) | (simp; omega) | (simp; done))))⟩
                rw [← hq.out, Hno.out (by simp [edgeOK, P1.out, P2.out])]; rfl
              · by_cases hxy : x = y
                · subst hxy
                  go_wp2
                  have w1 : IntKind.i64.wrap (n - 1) = n - 1 := IntWalk.i64_in _ (by omega)
                  go_quiet ((go_at_call 74; refine Calls.quiet_of_same (l01In_same _ _ _ _ true P1)))
                  go_wp2
                  go_ret
                  refine ⟨?_, by (repeat' (first | (with_reducible exact Below.refl _ _) | (with_reducible assumption) | (with_reducible refine Below.alloc ?_ ?_ _) | (with_reducible refine Below.drew ?_) | (with_reducible refine below_drewN ?_ _) | (with_reducible refine Below.setCell ?_ ?_ _) | (with_reducible refine Below.trans ?_ (Below.mono (by assumption) ?_)) | (first | omega | (simp only [World.size_alloc, World.size_setCell, World.size_drew]; omega) | (simp; omega) | (simp; done))))⟩
                  rw [← hq.out, Hno.out (by simp [edgeOK])]; rfl
                · have g1 : (x == y) = false := by simpa using hxy
                  have g2 : (x != y) = true := by simpa using hxy
                  have Hxy := Lib.hid hxy; clear hxy
                  go_wp2
                  have w1 : IntKind.i64.wrap (n - 1) = n - 1 := IntWalk.i64_in _ (by omega)
                  go_quiet ((first | (go_at_call 74; refine Calls.quiet_of_same (l01In_same _ _ _ _ true P1)) | (go_at_call 74; refine Calls.quiet_of_same (l01In_same _ _ _ _ true P2))))
                  go_wp2
                  refine ⟨⟨k + 1, by omega, by go_num, ?_, by (repeat' (first | (with_reducible exact Below.refl _ _) | (with_reducible assumption) | (with_reducible refine Below.alloc ?_ ?_ _) | (with_reducible refine Below.drew ?_) | (with_reducible refine below_drewN ?_ _) | (with_reducible refine Below.setCell ?_ ?_ _) | (with_reducible refine Below.trans ?_ (Below.mono (by assumption) ?_)) | (first | omega | (simp only [World.size_alloc, World.size_setCell, World.size_drew]; omega) | (simp; omega) | (simp; done))))⟩, by simp [intOf]; omega⟩
                  intro j hj
                  by_cases e : j = k
                  · subst e
                    rw [Hx.out]; simp [edgeOK, P1.out, P2.out, Hxy.out]
                  · exact hE.out j (by omega)
          · obtain rfl : k = m := by omega
            go_wp2
            go_ret
            refine ⟨?_, hbel⟩
            rw [← hq.out, areEdgesB_yes Hs.out (by rw [Hm.out]; exact H3.out) (fun j hj => hE.out j (by have := Hm.out; omega))]; rfl
      · have g3 : ((es.length : Int) == 3 * n / 2) = false := by simpa using h3
        have g4 : ((es.length : Int) != 3 * n / 2) = true := by simpa using h3
        have Hq : Hid (false = q) := by show _ = _; rw [← hq.out, areEdgesB]; simp [h3]
        clear hq hr h3 hs
        go_enter Try.func88, Try.ntmps88
        go_wp2_with (go_at_call 74; refine (l01In_b _ _ _ _ true h1).mono ?_; rintro e w1 ⟨rfl, rfl⟩)
        go_ret
        exact ⟨by rw [← Hq.out]; rfl, by (repeat' (first | (with_reducible exact Below.refl _ _) | (with_reducible assumption) | (with_reducible refine Below.alloc ?_ ?_ _) | (with_reducible refine Below.drew ?_) | (with_reducible refine below_drewN ?_ _) | (with_reducible refine Below.setCell ?_ ?_ _) | (with_reducible refine Below.trans ?_ (Below.mono (by assumption) ?_)) | (first | omega | (simp only [World.size_alloc, World.size_setCell, World.size_drew]; omega) | (simp; omega) | (simp; done))))⟩
    · have g1 : (n % 2 == 0) = false := by simpa using h2
      have g2 : (n % 2 != 0) = true := by simpa using h2
      have Hq : Hid (false = q) := by show _ = _; rw [← hq.out, areEdgesB, sizeB]; simp [h2]
      clear hq hr h2
      go_enter Try.func88, Try.ntmps88
      go_wp2_with (go_at_call 74; refine (l01In_b _ _ _ _ true h1).mono ?_; rintro e w1 ⟨rfl, rfl⟩)
      go_ret
      exact ⟨by rw [← Hq.out]; rfl, by (repeat' (first | (with_reducible exact Below.refl _ _) | (with_reducible assumption) | (with_reducible refine Below.alloc ?_ ?_ _) | (with_reducible refine Below.drew ?_) | (with_reducible refine below_drewN ?_ _) | (with_reducible refine Below.setCell ?_ ?_ _) | (with_reducible refine Below.trans ?_ (Below.mono (by assumption) ?_)) | (first | omega | (simp only [World.size_alloc, World.size_setCell, World.size_drew]; omega) | (simp; omega) | (simp; done))))⟩
end Go.Proofs.Ytblidpodbpoaeaa
