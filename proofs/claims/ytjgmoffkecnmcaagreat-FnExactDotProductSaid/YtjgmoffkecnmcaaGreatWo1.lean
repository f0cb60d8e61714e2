/- Sets of vertices: has, shifted. No statement of the program is proved here. -/
import Derived.Test.YtjgmoffkecnmcaaGreatSe1
import Derived.Test.YtjgmoffkecnmcaaGreatPc
import Derived.Test.YtjgmoffkecnmcaaGreatGr
namespace Go.Proofs.YtjgmoffkecnmcaaGreat
open Go.RowKit
set_option linter.unusedSimpArgs false
set_option linter.unusedVariables false
set_option maxRecDepth 20000

/-- How many members below u. -/
def shC (s u : Nat) : Nat := ((List.range u).filter fun i => s.testBit i).length
theorem shC_le (s u : Nat) : shC s u ≤ u := by unfold shC; have := List.length_filter_le (fun i => s.testBit i) (List.range u); simpa using this
theorem pop_low (s u : Nat) (hu : u ≤ 64) : Lib.popAux 64 (s &&& (2 ^ u - 1)) = shC s u := by
  rw [pop_count, shC]
  congr 1
  have h1 : List.range 64 = List.range u ++ (List.range (64 - u)).map (u + ·) := by rw [← List.range_add]; congr 1; omega
  rw [h1, List.filter_append]
  have h2 : ((List.range (64 - u)).map (u + ·)).filter (fun i => (s &&& (2 ^ u - 1)).testBit i) = [] := by
    rw [List.filter_eq_nil_iff]
    intro x hx
    rw [List.mem_map] at hx
    obtain ⟨y, _, rfl⟩ := hx
    have h9 : ¬ (u + y < u) := by omega
    simp [Nat.testBit_and, Nat.testBit_two_pow_sub_one, h9]
  rw [h2, List.append_nil]
  refine List.filter_congr fun x hx => ?_
  rw [List.mem_range] at hx
  simp [Nat.testBit_and, Nat.testBit_two_pow_sub_one, hx]
theorem wrapU_low {u : Nat} (h : u < 64) : IntKind.u64.wrap ((2 : Int) ^ u - 1) = ((2 ^ u - 1 : Nat) : Int) := by
  rw [show (2 : Int) ^ u = ((2 ^ u : Nat) : Int) by rw [Int.natCast_pow]; rfl]
  have h1 : 0 < 2 ^ u := Nat.pos_of_ne_zero (by simp)
  have h2 : 2 ^ u < 2 ^ 64 := Nat.pow_lt_pow_right (by decide) h
  rw [show (((2 ^ u : Nat) : Int) - 1) = ((2 ^ u - 1 : Nat) : Int) by omega]
  exact wrapU (by omega)

set_option maxHeartbeats 2000000 in
theorem shifted_b (u s : Nat) (w : World) (hu : u < 63) (hs : s < 2 ^ 63) :
    Calls Tryz.prog 27 #[.int .i64 u, .int .u64 s] w fun e w' => e = .returned (.int .i64 ((u : Int) - (shC s u : Nat))) ∧ w = w' := by
  have hlt : s &&& (2 ^ u - 1) < 2 ^ 64 := Nat.lt_of_le_of_lt Nat.and_le_left (Nat.lt_trans hs (by decide))
  have cs := Lib.hid fun W => size_b (s &&& (2 ^ u - 1)) W hlt
  rw [pop_low s u (by omega)] at cs
  have ea : (((s &&& (2 ^ u - 1) : Nat)) : Int) = (s : Int) % 2 ^ u := by rw [Nat.and_two_pow_sub_one_eq_mod, Int.natCast_emod, Int.natCast_pow]; rfl
  rw [ea] at cs
  clear ea
  have e1 := wrapU_pow (show u < 64 by omega)
  have e3 := wrapU_low (show u < 64 by omega)
  have e2 := andU (Nat.lt_trans hs (by decide)) (show 2 ^ u - 1 < 2 ^ 64 by have := Nat.pow_lt_pow_right (show 1 < 2 by decide) (show u < 64 by omega); omega)
  have h4 := shC_le s u
  generalize shC s u = k at *
  have e4 : wrap64 ((u : Int) - (k : Nat)) = (u : Int) - (k : Nat) := wrap64_small (by omega) (by omega)
  clear hlt hs h4
  go_enter Tryz.func27, Tryz.ntmps27
  go_wp2_with fail
  refine (cs.out _).mono ?_
  rintro e w1 ⟨rfl, rfl⟩
  go_wp2
  go_ret
  refine ⟨?_, rfl⟩
  show Ending.returned (.int .i64 (wrap64 _)) = _
  rw [e4]

theorem has_val {s u : Nat} (hs : s < 2 ^ 64) : (bits .and .u64 ((s : Int) / 2 ^ u) 1 == 1) = s.testBit u := by
  have h1 : (s : Int) / 2 ^ u = ((s / 2 ^ u : Nat) : Int) := by rw [Int.natCast_ediv, Int.natCast_pow]; rfl
  have h2 := andU (a := s / 2 ^ u) (b := 1) (Nat.lt_of_le_of_lt (Nat.div_le_self _ _) hs) (by decide)
  rw [h1, show (1 : Int) = ((1 : Nat) : Int) from rfl, h2, Nat.testBit_eq_decide_div_mod_eq, Nat.and_one_is_mod, Bool.eq_iff_iff]
  simp only [beq_iff_eq, decide_eq_true_eq]
  omega
set_option maxHeartbeats 2000000 in
theorem has_b (u s : Nat) (w : World) (q : Bool) (hq : Hid (s.testBit u = q)) (hu : u < 63) (hs : s < 2 ^ 63) :
    Calls Tryz.prog 55 #[.int .u64 s, .int .i64 u] w fun e w' => e = .returned (.bool q) ∧ w = w' := by
  have hv := has_val (s := s) (u := u) (Nat.lt_trans hs (by decide))
  rw [hq.out] at hv
  go_enter Tryz.func55, Tryz.ntmps55
  go_wp2
  go_ret
  first | exact ⟨rfl, rfl⟩ | exact ⟨by rw [hv]; rfl, rfl⟩ | (rw [hv]; exact ⟨rfl, rfl⟩)
end Go.Proofs.YtjgmoffkecnmcaaGreat
