/- The reference's test of proper numbers by a matrix: l08Proper. -/
import Derived.Test.YtkpnplldnihalaaSt1
import Derived.Test.YtkpnplldnihalaaZm
namespace Go.Proofs.Ytkpnplldnihalaa
open Go.RowKit
set_option linter.unusedSimpArgs false
set_option linter.unusedVariables false
set_option maxRecDepth 20000

set_option maxHeartbeats 4000000 in
theorem l08Proper_b (g off m c : Nat) (R : Nat → Nat) (M : Nat → Nat → Int) (k : Int) (B : Option Addr) (cb : Nat) (xs : List Int) (w : World) (q : Bool)
    (hq : Hid (properB m xs k (fun i j => decide (M i j = 1)) (fun x y => decide (x = y)) = q)) (Hm : Hid (xs.length = m)) (hl : m ≤ 100000) (hk : 0 ≤ k ∧ k ≤ 1000) (hx : RdI w B xs) (hM : Mat w g off m m R M) :
    Calls Try.prog 72 #[.slice (some ⟨g, off, none⟩) m c, .int .i64 k, .slice B m cb] w fun e w' => e = .returned (.bool q) ∧ Below w.heap.size w w' := by
  have hw : wrap64 (k - 1) = k - 1 := wrap64_small (by omega) (by omega)
  have HM := Lib.hid hM; clear hM
  go_enter Try.func72, Try.ntmps72
  go_wp2
  go_loopw [7] (fun s wr => ∃ i : Nat, i ≤ m ∧ s = .int .i64 i ∧ Hid (∀ j, j < i → properAt xs k (fun i j => decide (M i j = 1)) (fun x y => decide (x = y)) j = true) ∧ Below w.heap.size w wr) (fun s _ => m - (intOf s).toNat)
  case atStart => exact ⟨0, Nat.zero_le _, rfl, (by intro j hj; omega), by (repeat' (first | (with_reducible exact Below.refl _ _) | (with_reducible assumption) | (with_reducible refine Below.alloc ?_ ?_ _) | (with_reducible refine Below.drew ?_) | (with_reducible refine below_drewN ?_ _) | (with_reducible refine Below.setCell ?_ ?_ _) | (with_reducible refine Below.trans ?_ (Below.mono (by assumption) ?_)) | (first | omega | (simp only [World.size_alloc, World.size_setCell, World.size_drew]; omega) | (simp; omega) | (simp; done))))⟩
  case round =>
    obtain ⟨i, hi, rfl, hE, hbel⟩ := hrel
    obtain ⟨wo, rfl⟩ : ∃ wo : World, wo = wr := ⟨_, rfl⟩
    by_cases hlt : i < m
    · obtain ⟨b, off', rfl, hb, hcx⟩ := (hx.below hbel).pos (by have := Hm.out; omega)
      have hci := hcx i (by have := Hm.out; omega)
      obtain ⟨x, Hx⟩ : ∃ x, Hid (xs.getD i 0 = x) := ⟨_, rfl⟩
      rw [Hx.out] at hci
      clear hcx
      have e0 : (0 : Int) ≤ i := by omega
      have e1 : (i : Int) < m := by omega
      have e2 : (i : Int).toNat = i := by omega
      obtain ⟨q1, h1⟩ : ∃ q1, Hid (inB x 0 (k - 1) = q1) := ⟨_, rfl⟩
      have c1 := fun W => l01In_b x 0 (k - 1) W q1 h1
      cases q1
      · go_wp2_with fail
        refine (c1 _).mono ?_
        rintro e w1 ⟨rfl, rfl⟩
        go_wp2
        go_ret
        refine ⟨?_, by (repeat' (first | (with_reducible exact Below.refl _ _) | (with_reducible assumption) | (with_reducible refine Below.alloc ?_ ?_ _) | (with_reducible refine Below.drew ?_) | (with_reducible refine below_drewN ?_ _) | (with_reducible refine Below.setCell ?_ ?_ _) | (with_reducible refine Below.trans ?_ (Below.mono (by assumption) ?_)) | (first | omega | (simp only [World.size_alloc, World.size_setCell, World.size_drew]; omega) | (simp; omega) | (simp; done))))⟩
        rw [← hq.out, properB_no hlt (by rw [properAt, Hx.out, h1.out]; rfl)]; rfl
      · go_wp2_with fail
        refine (c1 _).mono ?_
        rintro e w1 ⟨rfl, rfl⟩
        go_wp2_with fail
        clear c1 hci
        go_loopw [8] (fun s wi => ∃ j : Nat, j ≤ i ∧ s = .int .i64 j ∧ Hid (∀ f, f < j → decide (M i f = 1) = true → decide (xs.getD i 0 = xs.getD f 0) = false) ∧ Below w.heap.size w wi) (fun s _ => i - (intOf s).toNat)
        case atStart => exact ⟨0, Nat.zero_le _, rfl, (by intro j hj; omega), hbel⟩
        case round =>
          obtain ⟨j, hj, rfl, hF, hbi⟩ := hrel
          by_cases hlt2 : j < i
          · obtain ⟨b', off'', he, hb', hcx⟩ := (hx.below hbi).pos (by have := Hm.out; omega)
            obtain ⟨rfl, rfl⟩ : b = b' ∧ off' = off'' := by simpa using he
            have hci := hcx i (by have := Hm.out; omega)
            have hcj := hcx j (by have := Hm.out; omega)
            obtain ⟨y, Hy⟩ : ∃ y, Hid (xs.getD j 0 = y) := ⟨_, rfl⟩
            rw [Hx.out] at hci
            rw [Hy.out] at hcj
            clear hcx he
            have hMi := HM.out.keep hbi
            have hr0 := hMi.head i hlt
            have hr1 := hMi.cell i hlt j (by omega)
            obtain ⟨z, Hz⟩ : ∃ z, Hid (M i j = z) := ⟨_, rfl⟩
            rw [Hz.out] at hr1
            clear hMi
            have f0 : (0 : Int) ≤ j := by omega
            have f1 : (j : Int) < m := by omega
            have f2 : (j : Int).toNat = j := by omega
            have HA : Hid (decide (M i j = 1) = true → decide (xs.getD i 0 = xs.getD j 0) = true → q = false) := fun h5 h6 => by
              rw [← hq.out, properB_no hlt (properAt_pair hlt2 h5 h6)]
            have HB : Hid ((decide (M i j = 1)) = decide (z = 1) ∧ decide (xs.getD i 0 = xs.getD j 0) = decide (x = y)) := ⟨by rw [Hz.out], by rw [Hx.out, Hy.out]⟩
            by_cases hz : z = 1
            · subst hz
              by_cases hxy : x = y
              · subst hxy
                have d1 : (x == x) = true := by simp
                go_wp2
                go_quiet (fail)
                go_wp2
                go_ret
                refine ⟨?_, by (repeat' (first | (with_reducible exact Below.refl _ _) | (with_reducible assumption) | (with_reducible refine Below.alloc ?_ ?_ _) | (with_reducible refine Below.drew ?_) | (with_reducible refine below_drewN ?_ _) | (with_reducible refine Below.setCell ?_ ?_ _) | (with_reducible refine Below.trans ?_ (Below.mono (by assumption) ?_)) | (first | omega | (simp only [World.size_alloc, World.size_setCell, World.size_drew]; omega) | (simp; omega) | (simp; done))))⟩
                rw [HA.out (by rw [HB.out.1]; rfl) (by rw [HB.out.2]; simp)]; rfl
              · have d1 : (x == y) = false := by simpa using hxy
                have d2 : decide (x = y) = false := by simpa using hxy
                go_wp2
                go_quiet (fail)
                go_wp2
                refine ⟨⟨j + 1, by omega, by go_num, ?_, by (repeat' (first | (with_reducible exact Below.refl _ _) | (with_reducible assumption) | (with_reducible refine Below.alloc ?_ ?_ _) | (with_reducible refine Below.drew ?_) | (with_reducible refine below_drewN ?_ _) | (with_reducible refine Below.setCell ?_ ?_ _) | (with_reducible refine Below.trans ?_ (Below.mono (by assumption) ?_)) | (first | omega | (simp only [World.size_alloc, World.size_setCell, World.size_drew]; omega) | (simp; omega) | (simp; done))))⟩, by simp [intOf]; omega⟩
                intro f hf hn
                by_cases e : f = j
                · subst e; rw [HB.out.2]; exact d2
                · exact hF.out f (by omega) hn
            · have d1 : (z == 1) = false := by simpa using hz
              have d2 : decide (z = 1) = false := by simpa using hz
              go_wp2
              go_quiet (fail)
              go_wp2
              refine ⟨⟨j + 1, by omega, by go_num, ?_, by (repeat' (first | (with_reducible exact Below.refl _ _) | (with_reducible assumption) | (with_reducible refine Below.alloc ?_ ?_ _) | (with_reducible refine Below.drew ?_) | (with_reducible refine below_drewN ?_ _) | (with_reducible refine Below.setCell ?_ ?_ _) | (with_reducible refine Below.trans ?_ (Below.mono (by assumption) ?_)) | (first | omega | (simp only [World.size_alloc, World.size_setCell, World.size_drew]; omega) | (simp; omega) | (simp; done))))⟩, by simp [intOf]; omega⟩
              intro f hf hn
              by_cases e : f = j
              · subst e; rw [HB.out.1, d2] at hn; cases hn
              · exact hF.out f (by omega) hn
          · obtain rfl : j = i := by omega
            go_wp2
            refine ⟨⟨j + 1, by omega, by go_num, ?_, hbi⟩, by simp [intOf]; omega⟩
            intro f hf
            by_cases e : f = j
            · subst e
              exact properAt_yes (by rw [Hx.out]; exact h1.out) (fun f' hf' hn => hF.out f' hf' hn)
            · exact hE.out f (by omega)
    · obtain rfl : i = m := by omega
      go_wp2
      go_ret
      refine ⟨?_, hbel⟩
      rw [← hq.out, properB_yes hE.out]; rfl
end Go.Proofs.Ytkpnplldnihalaa
