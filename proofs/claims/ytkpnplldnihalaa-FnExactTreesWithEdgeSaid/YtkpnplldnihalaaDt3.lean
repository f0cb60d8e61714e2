/- The reference's determinant. -/
import Derived.Test.YtkpnplldnihalaaDt2
namespace Go.Proofs.Ytkpnplldnihalaa
open Go.RowKit
set_option linter.unusedSimpArgs false
set_option linter.unusedVariables false
set_option maxRecDepth 20000

theorem elimTo_own0 (z : Bool) {k : Nat} {l : Int} {M : Nat → Nat → Int} {i j : Nat} (hj : k < j) : elimTo z 0 k l M i j i j = M i j := elimTo_own (f := 0) z hj
theorem elimTo_col0 (z : Bool) {k : Nat} {l : Int} {M : Nat → Nat → Int} {i j : Nat} : elimTo z 0 k l M i j i k = M i k := elimTo_col (f := 0) z
theorem elimTo_put0 (z : Bool) {k : Nat} {l : Int} {M : Nat → Nat → Int} {i j : Nat} (hi : k < i) (hj : k < j) : putM (elimTo z 0 k l M i j) i j (stepV 0 k l M i j) = elimTo z 0 k l M i (j + 1) := elimTo_put (f := 0) z hi hj
theorem stepV0 (k : Nat) (l : Int) (M : Nat → Nat → Int) (a b : Nat) : stepV 0 k l M a b = wrap64 ((wrap64 (wrap64 (M a b * M k k) - wrap64 (M a k * M k b))).tdiv l) := rfl
theorem detF_step0 {n k i : Nat} {M E : Nat → Nat → Int} {s l : Int} (hk : k ≤ i) (hi : i < n) (h0 : M i k ≠ 0) (hb : ∀ j, k ≤ j → j < i → M j k = 0) {z : Bool}
    (hE : E = elimTo z 0 k l (swapF M i k) n (k + 1)) : detF 0 n (n - k) k M s l = detF 0 n (n - (k + 1)) (k + 1) E (if i = k then s else wrap64 (-s)) (swapF M i k k k) := detF_step (f := 0) hk hi h0 hb hE
theorem detF_zero0 {n k : Nat} {M : Nat → Nat → Int} {s l : Int} (hk : k < n) (hb : ∀ j, k ≤ j → j < n → M j k = 0) : detF 0 n (n - k) k M s l = 0 := detF_zero (f := 0) hk hb
theorem swapF_pivot0 {k i : Nat} {M : Nat → Nat → Int} : swapF M i k k k = M i k := swapF_pivot (f := 0)

set_option maxHeartbeats 8000000 in
theorem l09Det_b (g off n c B : Nat) (R : Nat → Nat) (M : Nat → Nat → Int) (w : World) (r : Int) (hr : Hid (detF 0 n n 0 M 1 1 = r)) (hn : n ≤ 1000) (hM : Mat w g off n n R M) (hB : B ≤ g) (hBR : ∀ i, i < n → B ≤ R i) (hBw : B ≤ w.heap.size) :
    Calls Try.prog 93 #[.slice (some ⟨g, off, none⟩) n c] w fun e w' => e = .returned (.int .i64 r) ∧ Below B w w' := by
  have HM := Lib.hid hM; have HBR := Lib.hid hBR
  clear hM hBR
  go_enter Try.func93, Try.ntmps93
  go_wp2
  go_loopw [4, 5, 6] (fun lv sv kv wr => ∃ (k : Nat) (R : Nat → Nat) (M : Nat → Nat → Int) (s l : Int), k ≤ n ∧ kv = .int .i64 k ∧ sv = .int .i64 s ∧ lv = .int .i64 l ∧ Hid (l ≠ 0) ∧ Hid (detF 0 n (n - k) k M s l = r) ∧ Hid (Mat wr g off n n R M) ∧ Hid (∀ i, i < n → B ≤ R i) ∧ Below B w wr) (fun _ _ kv _ => n - (intOf kv).toNat)
  case atStart => exact ⟨0, R, M, 1, 1, Nat.zero_le _, rfl, rfl, rfl, (by show (1 : Int) ≠ 0; decide), hr, HM, HBR, by (repeat' (first | (with_reducible exact Below.refl _ _) | (with_reducible assumption) | (with_reducible refine Below.alloc ?_ ?_ _) | (with_reducible refine Below.drew ?_) | (with_reducible refine below_drewN ?_ _) | (with_reducible refine Below.setCell ?_ ?_ _) | (with_reducible refine Below.trans ?_ (Below.mono (by assumption) ?_)) | (first | omega | (simp only [World.size_alloc, World.size_setCell, World.size_drew]; omega) | (simp; omega) | (simp; done))))⟩
  case round =>
    clear HM HBR hr R M
    obtain ⟨k, R, M, s, l, hk, rfl, rfl, rfl, Hl, Hd, HM, HR, bW⟩ := hrel
    by_cases hlt : k < n
    · obtain ⟨wo, rfl⟩ : ∃ wo : World, wo = wr := ⟨_, rfl⟩
      go_wp2_with fail
      go_loopw [7] (fun iv wi => ∃ i : Nat, k ≤ i ∧ i ≤ n ∧ iv = .int .i64 i ∧ Hid (∀ j, k ≤ j → j < i → M j k = 0) ∧ wo = wi) (fun iv _ => n - (intOf iv).toNat)
      case atStart => exact ⟨k, Nat.le_refl _, hk, rfl, (fun j h1 h2 => by omega), rfl⟩
      case round =>
        obtain ⟨i, hi1, hi2, rfl, Hz, rfl⟩ := hrel
        by_cases hlt2 : i < n
        · have gi := HM.out.head i (by omega)
          have xi := HM.out.cell i (by omega) k hlt
          obtain ⟨x, Hx⟩ : ∃ x, Hid (M i k = x) := ⟨_, rfl⟩
          rw [Hx.out] at xi
          by_cases h0 : x = 0
          · subst h0
            obtain ⟨ek, ek2, ek3⟩ := idxF k _ hlt
            obtain ⟨ei, ei2, ei3⟩ := idxF i n hlt2
            go_wp2
            clear ek ek2 ek3 ei ei2 ei3
            refine ⟨⟨i + 1, by omega, by omega, by go_num, ?_, trivial⟩, by simp [intOf]; omega⟩
            intro j h1 h2
            by_cases e : j = i
            · subst e; exact Hx.out
            · exact Hz.out j h1 (by omega)
          · have n1 : (x == 0) = false := by simpa using h0
            have n2 : decide (x = 0) = false := by simpa using h0
            have Hpv : Hid (swapF M i k k k ≠ 0) := by show _ ≠ _; rw [swapF_pivot0, Hx.out]; exact h0
            have Hst : Hid (∀ E, E = elimTo true 0 k l (swapF M i k) n (k + 1) → detF 0 n (n - (k + 1)) (k + 1) E (if i = k then s else wrap64 (-s)) (swapF M i k k k) = r) := fun E hE => by
              rw [← detF_step0 hi1 hlt2 (by rw [Hx.out]; exact h0) Hz.out hE]; exact Hd.out
            have HR2 : Hid (∀ a, a < n → B ≤ swapF R i k a) := fun a ha => by
              unfold swapF; split
              · exact HR.out k hlt
              · split
                · exact HR.out i hlt2
                · exact HR.out a ha
            obtain ⟨ek, ek2, ek3⟩ := idxF k _ hlt
            obtain ⟨ei, ei2, ei3⟩ := idxF i _ hlt2
            go_upto_if 40 with fail
            clear xi Hx n1 n2 h0
            have hbB : B ≤ g := hB
            go_cut [5] (fun sv wx => ∃ (R2 : Nat → Nat) (M2 : Nat → Nat → Int) (s2 : Int), sv = .int .i64 s2 ∧ Hid (M2 k k ≠ 0) ∧ Hid (∀ E, E = elimTo true 0 k l M2 n (k + 1) → detF 0 n (n - (k + 1)) (k + 1) E s2 (M2 k k) = r) ∧ Hid (∀ a, a < n → B ≤ R2 a) ∧ Hid (Mat wx g off n n R2 M2) ∧ Hid (Below B w wx))
            case first =>
              by_cases e : i = k
              · rw [if_pos e] at Hst
                obtain rfl : k = i := e.symm
                go_wp2
                go_meet
                refine ⟨swapF R k k, swapF M k k, s, rfl, Hpv, Hst, HR2, ?_, bW⟩
                rw [swapF_same, swapF_same]; exact HM
              · rw [if_neg e] at Hst
                have gk := HM.out.head k (by omega)
                have fi := HM.out.gfree (off + i)
                have fk := HM.out.gfree (off + k)
                have m1 : ¬ ((i : Int) = k) := by omega
                have ne1 : off + i ≠ off + k := by omega
                have ne2 : off + k ≠ off + i := by omega
                go_wp2
                go_meet
                exact ⟨swapF R i k, swapF M i k, _, rfl, Hpv, Hst, HR2, (HM.out.swap hlt2 hlt), ((bW.setCell (p := ⟨g, off + i, none⟩) hB _).setCell (p := ⟨g, off + k, none⟩) hB _)⟩
            case rest =>
              clear Hst Hpv HR2 bW HM
              obtain ⟨R2, M2, s2, rfl, Hpv, Hst, HR2, HM2, bW⟩ := hcut
              have bW := bW.out
              clear gi Hd HR Hz
              try clear ek ek2 ek3
              try clear ei ei2 ei3
              go_wp2
              go_loopw [9] (fun s wi => ∃ a : Nat, k + 1 ≤ a ∧ a ≤ n ∧ s = .int .i64 a ∧ Hid (Mat wi g off n n R2 (elimTo true 0 k l M2 a (k + 1))) ∧ Below B w wi) (fun s _ => n - (intOf s).toNat)
              case atStart => exact ⟨k + 1, by omega, by omega, by go_num, by show Mat _ _ _ _ _ _ _; rw [elimTo_start]; exact HM2.out, bW⟩
              case round =>
                clear HM2 bW
                obtain ⟨a, ha1, ha2, rfl, HMa, bW⟩ := hrel
                obtain ⟨wo, rfl⟩ : ∃ wo : World, wo = wr := ⟨_, rfl⟩
                by_cases hlt3 : a < n
                · have ga := HMa.out.head a (by omega)
                  obtain ⟨ea, ea2, ea3⟩ := idxF a n hlt3
                  go_wp2_with fail
                  clear ea ea2 ea3 ga
                  go_loopw [11] (fun s wi => ∃ b : Nat, k + 1 ≤ b ∧ b ≤ n ∧ s = .int .i64 b ∧ Hid (Mat wi g off n n R2 (elimTo true 0 k l M2 a b)) ∧ Below B w wi) (fun s _ => n - (intOf s).toNat)
                  case atStart => exact ⟨k + 1, by omega, by omega, by go_num, HMa, bW⟩
                  case round =>
                    clear HMa bW
                    obtain ⟨b, hb1, hb2, rfl, HMb, bW⟩ := hrel
                    by_cases hlt4 : b < n
                    · have gk := HMb.out.head k (by omega)
                      have fz := HMb.out.free a (by omega) b
                      have x1 := HMb.out.cell a (by omega) b hlt4
                      have x2 := HMb.out.cell k (by omega) k hlt
                      have x3 := HMb.out.cell a (by omega) k hlt
                      have x4 := HMb.out.cell k (by omega) b hlt4
                      rw [elimTo_own0 _ (by omega)] at x1
                      rw [elimTo_pivot] at x2 x4
                      rw [elimTo_col0] at x3
                      have hv : Hid (stepV 0 k l M2 a b = wrap64 ((wrap64 (wrap64 (M2 a b * M2 k k) - wrap64 (M2 a k * M2 k b))).tdiv l)) := stepV0 _ _ _ _ _
                      generalize M2 a b = v1 at x1 hv
                      generalize M2 k k = v2 at x2 hv
                      generalize M2 a k = v3 at x3 hv
                      generalize M2 k b = v4 at x4 hv
                      have gd4 : ¬ l = 0 := Hl.out
                      obtain ⟨ek, ek2, ek3⟩ := idxF k _ hlt
                      obtain ⟨ea, ea2, ea3⟩ := idxF a n hlt3
                      obtain ⟨eb, eb2, eb3⟩ := idxF b n hlt4
                      go_wp2
                      go_still_tail 30, (by kernel_rfl)
                      change wpList _ _ _ _ _ wr.drew
                      go_wp2
                      clear gd4 ek ek2 ek3 ea ea2 ea3 eb eb2 eb3
                      refine ⟨⟨b + 1, by omega, by omega, by go_num, ?_, ?_⟩, by simp [intOf]; omega⟩
                      · have h1 := (HMb.out.set (i := a) (j := b) (by omega) hlt4 (stepV 0 k l M2 a b))
                        rw [elimTo_put0 _ (by omega) (by omega), hv.out] at h1
                        exact h1.keep (Below.drew (Below.refl _ _))
                      · exact (bW.setCell (by show B ≤ R2 a; exact HR2.out a (by omega)) _).drew
                    · obtain rfl : b = n := by omega
                      have fz := HMb.out.free a (by omega) k
                      have x3 := HMb.out.cell a (by omega) k hlt
                      obtain ⟨ek, ek2, ek3⟩ := idxF k _ hlt
                      go_wp2
                      clear ek ek2 ek3
                      refine ⟨⟨a + 1, by omega, by omega, by go_num, ((HMb.out.set (i := a) (j := k) (by omega) hlt 0).eq_ (fun i j _ hj => elimTo_row0 (f := 0) (by omega) (by omega))), bW.setCell (by show B ≤ R2 a; exact HR2.out a (by omega)) _⟩, by simp [intOf]; omega⟩
                · obtain rfl : a = n := by omega
                  have gk := HMa.out.head k (by omega)
                  have x2 := HMa.out.cell k (by omega) k hlt
                  rw [elimTo_pivot] at x2
                  obtain ⟨ek, ek2, ek3⟩ := idxF k _ hlt
                  go_wp2
                  clear ek ek2 ek3
                  refine ⟨⟨k + 1, R2, _, _, _, by omega, by go_num, rfl, rfl, Hpv, Hst.out _ rfl, HMa, HR2, bW⟩, by simp [intOf]; omega⟩
        · obtain rfl : i = n := by omega
          go_wp2
          go_ret
          exact ⟨by rw [← Hd.out, detF_zero0 hlt Hz.out]; rfl, bW⟩
    · obtain rfl : k = n := by omega
      go_wp2
      go_ret
      exact ⟨by rw [← Hd.out, detF_done]; rfl, bW⟩
end Go.Proofs.Ytkpnplldnihalaa
