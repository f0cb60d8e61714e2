/- The laws' functions that mark the edges of graphs, and look whether the marks are held; no statement of the program is proved here. -/
import Derived.Test.YtblidpodbpoaeaaMk1
namespace Go.Proofs.Ytblidpodbpoaeaa
open Go.RowKit
set_option linter.unusedSimpArgs false
set_option linter.unusedVariables false
set_option maxRecDepth 20000

set_option maxHeartbeats 4000000 in
theorem markE_b (A : Option Addr) (n c k n0 : Nat) (es : List (Int × Int)) (w : World) (hn : es.length = n) (hl : n ≤ 100000000) (hk : k ≤ 1000000000000) (hn0 : n0 ≤ w.heap.size) (hr : FrE w n0 A es) :
    Calls Try.prog 37 #[.slice A n c, .int .i64 k] w fun e w' => e = .returned (.int .i64 ((k + 2 * n : Nat) : Int)) ∧ Only A w w' ∧ Below n0 w w' ∧ FrE w' n0 A (iotaE k n) := by
  rcases Nat.eq_zero_or_pos n with h0 | hpos
  · subst h0
    clear hr
    go_enter Try.func37, Try.ntmps37
    go_wp2
    go_loopw [1, 5] (fun s i wr => s = .int .i64 k ∧ i = .int .i64 0 ∧ wr = w) (fun _ _ _ => 0)
    case atStart => exact ⟨rfl, rfl, rfl⟩
    case round =>
      obtain ⟨rfl, rfl, rfl⟩ := hrel
      go_wp2
      go_ret
      exact ⟨rfl, Only.refl _ _, Below.refl _ _, .inl rfl⟩
  · obtain ⟨b, off, rfl, hb0, hb, hf, hc⟩ : ∃ b off, A = some ⟨b, off, none⟩ ∧ n0 ≤ b ∧ b < w.heap.size ∧ (∀ o, w.frozen? ⟨b, o, none⟩ = false) ∧ ∀ j, j < es.length → w.cell? ⟨b, off + j * 2, none⟩ = some (.int .i64 (es.getD j (0, 0)).1) ∧ w.cell? ⟨b, off + j * 2 + 1, none⟩ = some (.int .i64 (es.getD j (0, 0)).2) := by
      rcases hr with rfl | h
      · simp at hn; omega
      · exact h
    rw [hn] at hc
    have Hf : Hid (∀ o, w.frozen? ⟨b, o, none⟩ = false) := hf
    have Hc : Hid (∀ j, j < 2 * n → ∃ v, w.cell? ⟨b, off + j, none⟩ = some v) := fun j hj => by
      rcases (by omega : j = (j / 2) * 2 ∨ j = (j / 2) * 2 + 1) with e | e
      · rw [e]; exact ⟨_, (hc (j / 2) (by omega)).1⟩
      · rw [e, ← Nat.add_assoc]; exact ⟨_, (hc (j / 2) (by omega)).2⟩
    clear hr hf hc
    go_enter Try.func37, Try.ntmps37
    go_wp2
    go_loopw [1, 5] (fun s i wr => ∃ j : Nat, j ≤ n ∧ s = .int .i64 ((k + 2 * j : Nat) : Int) ∧ i = .int .i64 j ∧ Hid (Only (some ⟨b, off, none⟩) w wr) ∧ Hid (∀ o, wr.frozen? ⟨b, o, none⟩ = false) ∧ Hid (∀ a, a < 2 * j → wr.cell? ⟨b, off + a, none⟩ = some (.int .i64 ((k + a : Nat) : Int))) ∧ Hid (∀ a, 2 * j ≤ a → a < 2 * n → ∃ v, wr.cell? ⟨b, off + a, none⟩ = some v)) (fun _ i _ => n - (intOf i).toNat)
    case atStart => exact ⟨0, Nat.zero_le _, by simp, rfl, Only.refl _ _, Hf, fun a ha => by omega, fun a _ ha => Hc.out a ha⟩
    case round =>
      obtain ⟨j, hj, rfl, rfl, Ho, Hfr, Hd, Hu⟩ := hrel
      by_cases hlt : j < n
      · obtain ⟨v, hv⟩ := Hu.out (2 * j) (Nat.le_refl _) (by omega)
        obtain ⟨v2, hv2⟩ := Hu.out (2 * j + 1) (by omega) (by omega)
        have hfz := Hfr.out (off + 2 * j)
        have hfz2 := Hfr.out (off + 2 * j + 1)
        rw [← Nat.add_assoc] at hv2
        have ej : (j : Int).toNat = j := Int.toNat_natCast j
        have ej2 : off + j * 2 = off + 2 * j := by omega
        obtain ⟨oj, Hoj⟩ : ∃ oj, Hid (off + 2 * j = oj) := ⟨_, rfl⟩
        rw [Hoj.out] at hv hv2 hfz hfz2 ej2
        have hne : w.heap.size = w.heap.size := rfl
        obtain ⟨kj, Hkj⟩ : ∃ kj, Hid (k + 2 * j = kj) := ⟨_, rfl⟩
        have bkj : kj ≤ 2000000000000 := by have := Hkj.out; omega
        rw [Hkj.out]
        have hv3 : (wr.setCell ⟨b, oj, none⟩ (.int .i64 (kj : Int))).cell? ⟨b, oj + 1, none⟩ = some v2 := (sc_other (addr_ne (.inr (by omega)))).trans hv2
        have hfz3 : (wr.setCell ⟨b, oj, none⟩ (.int .i64 (kj : Int))).frozen? ⟨b, oj + 1, none⟩ = false := by rw [sc_frozen]; exact hfz2
        clear hne hv2 hfz2
        go_wp2
        refine wp_loop_rounds 3 ?_
        rw [rounds_succ]; go_wp2
        rw [rounds_succ]; go_wp2
        rw [rounds_succ]; go_wp2
        refine ⟨⟨j + 1, by omega, by (have := Hkj.out); first | go_num | (congr 1; omega), by go_num, (Ho.out.set _ _).set _ _, ?_, ?_, ?_⟩, by simp [intOf]; omega⟩
        · intro o; rw [sc_frozen, sc_frozen]; exact Hfr.out o
        · intro a ha
          have := Hoj.out
          have := Hkj.out
          by_cases e : a = 2 * j + 1
          · subst e
            rw [show off + (2 * j + 1) = oj + 1 by omega, sc_same hv3]; first | (congr 2; omega) | (congr 1; omega)
          · by_cases e2 : a = 2 * j
            · subst e2
              rw [sc_other (addr_ne (.inr (by omega))), show off + 2 * j = oj by omega, sc_same hv, Hkj.out]
            · rw [sc_other (addr_ne (.inr (by omega))), sc_other (addr_ne (.inr (by omega)))]; exact Hd.out a (by omega)
        · intro a h1 h2
          have := Hoj.out
          rw [sc_other (addr_ne (.inr (by omega))), sc_other (addr_ne (.inr (by omega)))]; exact Hu.out a (by omega) h2
      · obtain rfl : j = n := by omega
        go_wp2
        go_ret
        refine ⟨rfl, Ho.out, Ho.out.below hb0 hn0, .inr ⟨b, off, rfl, hb0, Nat.lt_of_lt_of_le hb Ho.out.size, Hfr.out, fun a ha => ?_⟩⟩
        rw [iotaE_len] at ha
        rw [iotaE_getD _ _ _ ha]
        have h1 := Hd.out (2 * a) (by omega)
        have h2 := Hd.out (2 * a + 1) (by omega)
        exact ⟨by rw [Nat.mul_comm a 2]; exact h1, by rw [Nat.mul_comm a 2, Nat.add_assoc]; exact h2⟩

set_option maxHeartbeats 2000000 in
theorem markG_b (m : Int) (A : Option Addr) (n c k n0 : Nat) (es : List (Int × Int)) (w : World) (hn : es.length = n) (hl : n ≤ 100000000) (hk : k ≤ 1000000000000) (hn0 : n0 ≤ w.heap.size) (hr : FrE w n0 A es) :
    Calls Try.prog 13 #[.agg #[.int .i64 m, .slice A n c], .int .i64 k] w fun e w' => e = .returned (.int .i64 ((k + 2 * n : Nat) : Int)) ∧ Only A w w' ∧ Below n0 w w' ∧ FrE w' n0 A (iotaE k n) := by
  have hB0 : Below w.heap.size w (w.alloc (.cells #[.int .i64 m, .slice A n c] 24)) := Below.alloc (Below.refl _ _) (Nat.le_refl _) _
  have ce := markE_b A n c k n0 es (w.alloc (.cells #[.int .i64 m, .slice A n c] 24)) hn hl hk (by (first | omega | (simp only [World.size_alloc, World.size_setCell, World.size_drew]; omega) | (simp; omega) | (simp; done))) (hr.below hB0)
  obtain ⟨r, Hr⟩ : ∃ r : Int, Hid (((k + 2 * n : Nat) : Int) = r) := ⟨_, rfl⟩
  rw [Hr.out] at ce ⊢
  have HB0 := Lib.hid hB0
  clear hr hB0
  go_enter Try.func13, Try.ntmps13
  go_wp2_with fail
  refine ce.mono ?_
  rintro e w1 ⟨rfl, ho, hb, hf⟩
  go_wp2
  go_ret
  exact ⟨rfl, (Only.of_below HB0.out).trans ho, (HB0.out.mono hn0).trans hb, hf⟩
end Go.Proofs.Ytblidpodbpoaeaa
