/- The program's determinant. -/
import Derived.Test.YtkpnplldnihalaaDt1
import Derived.Test.YtkpnplldnihalaaGr
namespace Go.Proofs.Ytkpnplldnihalaa
open Go.RowKit
set_option linter.unusedSimpArgs false
set_option linter.unusedVariables false
set_option maxRecDepth 20000


set_option maxHeartbeats 8000000 in
theorem determinant_b (g off n N f c B : Nat) (R : Nat → Nat) (M : Nat → Nat → Int) (w : World) (r : Int) (hr : Hid (detF f n n 0 M 1 1 = r)) (hN : N = n + f) (hn : n ≤ 1000) (hf : f ≤ 1000) (hM : Mat w g off n N R M) (hB : B ≤ g) (hBR : ∀ i, i < n → B ≤ R i) (hBw : B ≤ w.heap.size) :
    Calls Try.prog 96 #[.slice (some ⟨g, off, none⟩) n c, .int .i64 f] w fun e w' => e = .returned (.int .i64 r) ∧ Below B w w' := by
  have HM := Lib.hid hM; have HBR := Lib.hid hBR; have HN := Lib.hid hN; have Hf := Lib.hid hf
  clear hM hBR hN hf
  go_enter Try.func96, Try.ntmps96
  go_wp2
  go_loopw [6, 7, 15] (fun sv lv kv wr => ∃ (k : Nat) (R : Nat → Nat) (M : Nat → Nat → Int) (s l : Int), k ≤ n ∧ kv = .int .i64 k ∧ sv = .int .i64 s ∧ lv = .int .i64 l ∧ Hid (l ≠ 0) ∧ Hid (detF f n (n - k) k M s l = r) ∧ Hid (Mat wr g off n N R M) ∧ Hid (∀ i, i < n → B ≤ R i) ∧ Below B w wr) (fun _ _ kv _ => n - (intOf kv).toNat)
  case atStart => exact ⟨0, R, M, 1, 1, Nat.zero_le _, rfl, rfl, rfl, (by show (1 : Int) ≠ 0; decide), hr, HM, HBR, by (repeat' (first | (with_reducible exact Below.refl _ _) | (with_reducible assumption) | (with_reducible refine Below.alloc ?_ ?_ _) | (with_reducible refine Below.drew ?_) | (with_reducible refine below_drewN ?_ _) | (with_reducible refine Below.setCell ?_ ?_ _) | (with_reducible refine Below.trans ?_ (Below.mono (by assumption) ?_)) | (first | omega | (simp only [World.size_alloc, World.size_setCell, World.size_drew]; omega) | (simp; omega) | (simp; done))))⟩
  case round =>
    clear HM HBR hr R M
    obtain ⟨k, R, M, s, l, hk, rfl, rfl, rfl, Hl, Hd, HM, HR, bW⟩ := hrel
    by_cases hlt : k < n
    · obtain ⟨p, Hp⟩ : ∃ p, Hid (k + f = p) := ⟨_, rfl⟩
      have Wkf : Hid (wrap64 ((k : Int) + (f : Int)) = (p : Int)) := by show _ = _; rw [← Hp.out]; exact wrapS _ _ (by have := Hf.out; omega)
      have WkK : Hid (IntKind.i64.wrap ((k : Int) + (f : Int)) = (p : Int)) := by show _ = _; rw [← Hp.out]; exact wrapK _ _ (by have := Hf.out; omega)
      have HqN : Hid (p < N) := by show _ < _; have := HN.out; have := Hp.out; omega
      obtain ⟨wo, rfl⟩ : ∃ wo : World, wo = wr := ⟨_, rfl⟩
      go_wp2_with fail
      go_loopw [9] (fun iv wi => ∃ i : Nat, k ≤ i ∧ i ≤ n ∧ iv = .int .i64 i ∧ Hid (∀ j, k ≤ j → j < i → M j p = 0) ∧ wo = wi) (fun iv _ => n - (intOf iv).toNat)
      case atStart => exact ⟨k, Nat.le_refl _, hk, rfl, (fun j h1 h2 => by omega), rfl⟩
      case round =>
        obtain ⟨i, hi1, hi2, rfl, Hz, rfl⟩ := hrel
        by_cases hlt2 : i < n
        · have gi := HM.out.head i (by omega)
          have xi := HM.out.cell i (by omega) p HqN.out
          obtain ⟨x, Hx⟩ : ∃ x, Hid (M i p = x) := ⟨_, rfl⟩
          rw [Hx.out] at xi
          by_cases h0 : x = 0
          · subst h0
            have wkf := Wkf.out
            obtain ⟨ek, ek2, ek3⟩ := idxF k _ hlt
            obtain ⟨eq, eq2, eq3⟩ := idxF p N HqN.out
            obtain ⟨ei, ei2, ei3⟩ := idxF i n hlt2
            go_wp2
            clear wkf ek ek2 ek3 eq eq2 eq3 ei ei2 ei3
            refine ⟨⟨i + 1, by omega, by omega, by go_num, ?_, trivial⟩, by simp [intOf]; omega⟩
            intro j h1 h2
            by_cases e : j = i
            · subst e; exact Hx.out
            · exact Hz.out j h1 (by omega)
          · have n1 : (x == 0) = false := by simpa using h0
            have n2 : decide (x = 0) = false := by simpa using h0
            have Hpv : Hid (swapF M i k k p ≠ 0) := by show _ ≠ _; rw [← Hp.out, swapF_pivot, Hp.out, Hx.out]; exact h0
            have Hst : Hid (∀ E, E = elimTo false f k l (swapF M i k) n (k + 1) → detF f n (n - (k + 1)) (k + 1) E (if i = k then s else wrap64 (-s)) (swapF M i k k p) = r) := fun E hE => by
              have h1 := Hz.out; rw [← Hp.out] at h1
              rw [← Hp.out, ← detF_step (f := f) (n := n) hi1 hlt2 (by rw [Hp.out, Hx.out]; exact h0) h1 hE]; exact Hd.out
            have HR2 : Hid (∀ a, a < n → B ≤ swapF R i k a) := fun a ha => by
              unfold swapF; split
              · exact HR.out k hlt
              · split
                · exact HR.out i hlt2
                · exact HR.out a ha
            have wkf := Wkf.out
            obtain ⟨ek, ek2, ek3⟩ := idxF k _ hlt
            obtain ⟨eq, eq2, eq3⟩ := idxF p N HqN.out
            obtain ⟨ei, ei2, ei3⟩ := idxF i _ hlt2
            go_upto_if 41 with fail
            clear wkf eq eq2 eq3 xi Hx n1 n2 h0
            have hbB : B ≤ g := hB
            go_cut [6] (fun sv wx => ∃ (R2 : Nat → Nat) (M2 : Nat → Nat → Int) (s2 : Int), sv = .int .i64 s2 ∧ Hid (M2 k p ≠ 0) ∧ Hid (∀ E, E = elimTo false f k l M2 n (k + 1) → detF f n (n - (k + 1)) (k + 1) E s2 (M2 k p) = r) ∧ Hid (∀ a, a < n → B ≤ R2 a) ∧ Hid (Mat wx g off n N R2 M2) ∧ Hid (Below B w wx))
            case first =>
              by_cases e : i = k
              · rw [if_pos e] at Hst
                obtain rfl : k = i := e.symm
                go_wp2
                go_meet
                refine ⟨swapF R k k, swapF M k k, s, rfl, Hpv, Hst, HR2, ?_, bW⟩
                rw [swapF_same, swapF_same]; exact HM
              · rw [if_neg e] at Hst
                have gk := HM.out.head k (by omega)
                have fi := HM.out.gfree (off + i)
                have fk := HM.out.gfree (off + k)
                have m1 : ¬ ((i : Int) = k) := by omega
                have ne1 : off + i ≠ off + k := by omega
                have ne2 : off + k ≠ off + i := by omega
                go_wp2
                go_region
                go_wp2
                go_meet
                exact ⟨swapF R i k, swapF M i k, _, rfl, Hpv, Hst, HR2, (HM.out.swap hlt2 hlt).keep (Below.drew (Below.refl _ _)), ((bW.setCell (p := ⟨g, off + i, none⟩) hB _).setCell (p := ⟨g, off + k, none⟩) hB _).drew⟩
            case rest =>
              clear Hst Hpv HR2 bW HM
              obtain ⟨R2, M2, s2, rfl, Hpv, Hst, HR2, HM2, bW⟩ := hcut
              have bW := bW.out
              clear gi Hd HR Hz
              try clear ek ek2 ek3
              try clear ei ei2 ei3

              go_wp2
              go_loopw [10] (fun s wi => ∃ a : Nat, k + 1 ≤ a ∧ a ≤ n ∧ s = .int .i64 a ∧ Hid (Mat wi g off n N R2 (elimTo false f k l M2 a (k + 1))) ∧ Below B w wi) (fun s _ => n - (intOf s).toNat)
              case atStart => exact ⟨k + 1, by omega, by omega, by go_num, by show Mat _ _ _ _ _ _ _; rw [elimTo_start]; exact HM2.out, bW⟩
              case round =>
                clear HM2 bW
                obtain ⟨a, ha1, ha2, rfl, HMa, bW⟩ := hrel
                obtain ⟨wo, rfl⟩ : ∃ wo : World, wo = wr := ⟨_, rfl⟩
                by_cases hlt3 : a < n
                · go_wp2_with fail
                  go_loopw [11] (fun s wi => ∃ b : Nat, k + 1 ≤ b ∧ b ≤ n ∧ s = .int .i64 b ∧ Hid (Mat wi g off n N R2 (elimTo false f k l M2 a b)) ∧ Below B w wi) (fun s _ => n - (intOf s).toNat)
                  case atStart => exact ⟨k + 1, by omega, by omega, by go_num, HMa, bW⟩
                  case round =>
                    clear HMa bW
                    obtain ⟨b, hb1, hb2, rfl, HMb, bW⟩ := hrel
                    by_cases hlt4 : b < n
                    · have ga := HMb.out.head a (by omega)
                      have gk := HMb.out.head k (by omega)
                      obtain ⟨q, Hq⟩ : ∃ q, Hid (b + f = q) := ⟨_, rfl⟩
                      have hbN : q < N := by have := HN.out; have := Hq.out; omega
                      have Wbf : Hid (IntKind.i64.wrap ((b : Int) + (f : Int)) = (q : Int)) := by show _ = _; rw [← Hq.out]; exact wrapK _ _ (by have := Hf.out; omega)
                      have fz := HMb.out.free a (by omega) q
                      have x1 := HMb.out.cell a (by omega) q hbN
                      have x2 := HMb.out.cell k (by omega) p HqN.out
                      have x3 := HMb.out.cell a (by omega) p HqN.out
                      have x4 := HMb.out.cell k (by omega) q hbN
                      rw [← Hq.out, elimTo_own _ (by omega), Hq.out] at x1
                      rw [elimTo_pivot] at x2 x4
                      rw [← Hp.out, elimTo_col, Hp.out] at x3
                      have hv : Hid (stepV f k l M2 a q = wrap64 ((wrap64 (wrap64 (M2 a q * M2 k p) - wrap64 (M2 a p * M2 k q))).tdiv l)) := by show _ = _; rw [← Hp.out]; rfl
                      generalize M2 a q = v1 at x1 hv
                      generalize M2 k p = v2 at x2 hv
                      generalize M2 a p = v3 at x3 hv
                      generalize M2 k q = v4 at x4 hv
                      have wkf := WkK.out
                      have wbf := Wbf.out
                      have gd4 : ¬ l = 0 := Hl.out
                      obtain ⟨ek, ek2, ek3⟩ := idxF k _ hlt
                      obtain ⟨eq, eq2, eq3⟩ := idxF p N HqN.out
                      obtain ⟨ea, ea2, ea3⟩ := idxF a n hlt3
                      obtain ⟨eb, eb2, eb3⟩ := idxF q N hbN
                      go_wp2
                      go_still_tail 49, (by kernel_rfl)
                      change wpList _ _ _ _ _ wr.drew
                      go_wp2
                      clear gd4 wkf wbf ek ek2 ek3 eq eq2 eq3 ea ea2 ea3 eb eb2 eb3
                      refine ⟨⟨b + 1, by omega, by omega, by go_num, ?_, ?_⟩, by simp [intOf]; omega⟩
                      · have h1 := (HMb.out.set (i := a) (j := q) (by omega) hbN (stepV f k l M2 a q))
                        rw [← Hq.out, elimTo_put _ (by omega) (by omega), Hq.out, hv.out] at h1
                        exact h1.keep (Below.drew (Below.refl _ _))
                      · exact (bW.setCell (by show B ≤ R2 a; exact HR2.out a (by omega)) _).drew
                    · obtain rfl : b = n := by omega
                      go_wp2
                      refine ⟨⟨a + 1, by omega, by omega, by go_num, HMb.out.eq_ (fun i j _ hj => elimTo_row (by have := HN.out; omega)), bW⟩, by simp [intOf]; omega⟩
                · obtain rfl : a = n := by omega
                  have hlt5 := hlt
                  have gk := HMa.out.head k (by omega)
                  have x2 := HMa.out.cell k (by omega) p HqN.out
                  rw [elimTo_pivot] at x2
                  have wkf := Wkf.out
                  obtain ⟨ek, ek2, ek3⟩ := idxF k _ hlt
                  obtain ⟨eq, eq2, eq3⟩ := idxF p N HqN.out
                  go_wp2
                  clear wkf ek ek2 ek3 eq eq2 eq3
                  refine ⟨⟨k + 1, R2, _, _, _, by omega, by go_num, rfl, rfl, Hpv, Hst.out _ rfl, HMa, HR2, bW⟩, by simp [intOf]; omega⟩

        · obtain rfl : i = n := by omega
          go_wp2
          go_ret
          exact ⟨by have h1 := Hz.out; rw [← Hp.out] at h1; rw [← Hd.out, detF_zero hlt h1]; rfl, bW⟩
    · obtain rfl : k = n := by omega
      go_wp2
      go_ret
      exact ⟨by rw [← Hd.out, detF_done]; rfl, bW⟩
end Go.Proofs.Ytkpnplldnihalaa
