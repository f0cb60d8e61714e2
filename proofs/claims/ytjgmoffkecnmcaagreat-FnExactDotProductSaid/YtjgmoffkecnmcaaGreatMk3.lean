/- The laws' look whether the marks of a graph's edges are held; no statement of the program is proved here. -/
/- Marks in a graph that was returned: what was made behind it stays. No statement of the program is proved here. -/
import Derived.Test.YtjgmoffkecnmcaaGreatMk1
import Derived.Test.YtjgmoffkecnmcaaGreatGm2
namespace Go.Proofs.YtjgmoffkecnmcaaGreat
open Go.RowKit
set_option linter.unusedSimpArgs false
set_option linter.unusedVariables false
set_option maxRecDepth 20000

set_option maxHeartbeats 4000000 in
theorem heldE_b (A : Option Addr) (n c k : Nat) (w : World) (hl : n ≤ 100000000) (hk : k ≤ 1000000000000) (hr : RdE w A (iotaE k n)) :
    Calls Tryz.prog 31 #[.slice A n c, .int .i64 k] w fun e w' => e = .returned (.int .i64 ((k + 2 * n : Nat) : Int)) ∧ Below w.heap.size w w' := by
  go_enter Tryz.func31, Tryz.ntmps31
  go_wp2
  go_loopw [1, 5] (fun s i wr => ∃ j : Nat, j ≤ n ∧ s = .int .i64 ((k + 2 * j : Nat) : Int) ∧ i = .int .i64 j ∧ wr = w) (fun _ i _ => n - (intOf i).toNat)
  case atStart => exact ⟨0, Nat.zero_le _, by simp, rfl, rfl⟩
  case round =>
    obtain ⟨j, hj, rfl, rfl, rfl⟩ := hrel
    by_cases hlt : j < n
    · obtain ⟨b, off, rfl, hb, hc⟩ := hr.pos (by rw [iotaE_len]; omega)
      obtain ⟨hv, hv2⟩ := hc j (by rw [iotaE_len]; exact hlt)
      rw [iotaE_getD _ _ _ hlt] at hv hv2
      dsimp only at hv hv2
      clear hc hr
      have ej : (j : Int).toNat = j := Int.toNat_natCast j
      obtain ⟨kj, Hkj⟩ : ∃ kj, Hid (k + 2 * j = kj) := ⟨_, rfl⟩
      have bkj : kj ≤ 2000000000000 := by have := Hkj.out; omega
      rw [Hkj.out] at hv hv2 ⊢
      have nb : ((kj : Int) != (kj : Int)) = false := by simp
      have nb2 : ((kj : Int) == (kj : Int)) = true := by simp
      have e1 : ((kj + 1 : Nat) : Int) = (kj : Int) + 1 := rfl
      rw [e1] at hv2
      have nb3 : (((kj : Int) + 1) != ((kj : Int) + 1)) = false := by simp
      go_wp2
      refine wp_loop_rounds 3 ?_
      rw [rounds_succ]; go_wp2
      rw [rounds_succ]; go_wp2
      rw [rounds_succ]; go_wp2
      refine ⟨⟨j + 1, by omega, by (have := Hkj.out); first | go_num | (congr 1; omega), by go_num, by first | rfl | trivial⟩, by simp [intOf]; omega⟩
    · obtain rfl : j = n := by omega
      go_wp2
      go_ret
      exact ⟨rfl, Below.refl _ _⟩

set_option maxHeartbeats 2000000 in
theorem heldG_b (m : Int) (A : Option Addr) (n c k : Nat) (w : World) (hl : n ≤ 100000000) (hk : k ≤ 1000000000000) (hr : RdE w A (iotaE k n)) :
    Calls Tryz.prog 11 #[.agg #[.int .i64 m, .slice A n c], .int .i64 k] w fun e w' => e = .returned (.int .i64 ((k + 2 * n : Nat) : Int)) ∧ Below w.heap.size w w' := by
  have hB0 : Below w.heap.size w (w.alloc (.cells #[.int .i64 m, .slice A n c] 28)) := Below.alloc (Below.refl _ _) (Nat.le_refl _) _
  have ce := heldE_b A n c k (w.alloc (.cells #[.int .i64 m, .slice A n c] 28)) hl hk (hr.below hB0)
  obtain ⟨r, Hr⟩ : ∃ r : Int, Hid (((k + 2 * n : Nat) : Int) = r) := ⟨_, rfl⟩
  have p0 : ¬ r < 0 := by have := Hr.out; omega
  rw [Hr.out] at ce ⊢
  have HB0 := Lib.hid hB0
  clear hr hB0
  go_enter Tryz.func11, Tryz.ntmps11
  go_wp2_with fail
  refine ce.mono ?_
  rintro e w1 ⟨rfl, hb⟩
  go_wp2
  go_ret
  exact ⟨rfl, HB0.out.trans (hb.mono HB0.out.size)⟩
end Go.Proofs.YtjgmoffkecnmcaaGreat
namespace Go.Proofs.YtjgmoffkecnmcaaGreat
open Go.RowKit
set_option linter.unusedSimpArgs false
set_option linter.unusedVariables false
set_option maxRecDepth 20000

/-- The edges' memory lies below T. -/
def UpE (T : Nat) (A : Option Addr) (es : List (Int × Int)) : Prop := es = [] ∨ ∃ b off, A = some ⟨b, off, none⟩ ∧ b < T
theorem FrE.up {w : World} {n0 : Nat} {A : Option Addr} {es : List (Int × Int)} (h : FrE w n0 A es) : UpE w.heap.size A es := by
  rcases h with h | ⟨b, off, e, _, hb, _⟩
  · exact .inl h
  · exact .inr ⟨b, off, e, hb⟩
theorem markG_up (m : Int) (A : Option Addr) (n c k n0 T : Nat) (es : List (Int × Int)) (w : World) (hn : es.length = n) (hl : n ≤ 100000000) (hk : k ≤ 1000000000000) (hn0 : n0 ≤ w.heap.size) (hr : FrE w n0 A es) (hT : UpE T A es) :
    Calls Tryz.prog 10 #[.agg #[.int .i64 m, .slice A n c], .int .i64 k] w fun e w' => e = .returned (.int .i64 ((k + 2 * n : Nat) : Int)) ∧ (∀ g, T ≤ g → g < w.heap.size → w'.heap[g]? = w.heap[g]?) ∧ Below n0 w w' ∧ FrE w' n0 A (iotaE k n) := by
  rcases hT with h0 | ⟨b, off, e1, h1⟩
  · subst h0
    obtain rfl : n = 0 := hn.symm
    refine (markG_b m A 0 c k w.heap.size [] w rfl hl hk (Nat.le_refl _) (.inl rfl)).mono ?_
    rintro e w' ⟨he, ho, hb2, hF⟩
    exact ⟨he, fun g _ hg => hb2.block g hg, hb2.mono hn0, .inl rfl⟩
  · refine (markG_b m A n c k n0 es w hn hl hk hn0 hr).mono ?_
    rintro e w' ⟨he, ho, hb2, hF⟩
    refine ⟨he, fun g hg hg2 => ho.block g hg2 fun o e2 => ?_, hb2, hF⟩
    rw [e1] at e2
    injection e2 with e2
    injection e2 with e2
    omega
end Go.Proofs.YtjgmoffkecnmcaaGreat
