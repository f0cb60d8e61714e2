/- The least number of colours: the program's leastNumber. -/
import Derived.Test.YtkpnplldnihalaaLp3
import Derived.Test.YtkpnplldnihalaaSt1
namespace Go.Proofs.Ytkpnplldnihalaa
open Go.RowKit
set_option linter.unusedSimpArgs false
set_option linter.unusedVariables false
set_option maxRecDepth 20000

/-- With k colours, some numbers are found. -/
def okK (are : Nat → Nat → Bool) (T : Nat) (k : Nat) : Bool := (fillO are (fun x y => decide (x = y)) (candF k) T []).isSome
/-- The least number of colours. -/
def numK (are : Nat → Nat → Bool) (T : Nat) : Nat := ((List.range (T + 1)).find? fun k => decide (1 ≤ k) && okK are T k).getD 0
theorem numK_spec {are : Nat → Nat → Bool} {T : Nat} (hT : 1 ≤ T) : (1 ≤ numK are T ∧ numK are T ≤ T) ∧ okK are T (numK are T) = true ∧ ∀ j, 1 ≤ j → j < numK are T → okK are T j = false := by
  have hall : okK are T T = true := by
    have := fillO_all (are := are) (T := T) (k := (T : Int)) (Int.le_refl _) T 0 (by omega)
    exact this
  unfold numK
  cases h : (List.range (T + 1)).find? fun k => decide (1 ≤ k) && okK are T k with
  | none =>
    rw [List.find?_eq_none] at h
    have := h T (by simp)
    simp [hall, hT] at this
  | some k =>
    rw [List.find?_range_eq_some] at h
    obtain ⟨h1, h2, h3⟩ := h
    simp only [Bool.and_eq_true, decide_eq_true_eq, List.mem_range] at h1 h2
    refine ⟨⟨h1.1, by simp; omega⟩, h1.2, fun j hj1 hj2 => ?_⟩
    have := h3 j hj2
    simpa [hj1] using this

set_option maxHeartbeats 2000000 in
theorem leastNumber_b (T cn k0 r : Nat) (An : Option Addr) (are : Nat → Nat → Bool) (w : World) (hk0 : 1 ≤ k0) (hkr : k0 ≤ r) (hr : r ≤ 1000) (hT : T ≤ 1000) (hok : Hid (okK are T r = true)) (hno : Hid (∀ j, k0 ≤ j → j < r → okK are T j = false)) (hnear : RdL w An (nbrs are T)) :
    Calls Try.prog 88 #[.slice An T cn, .int .i64 k0] w fun e w' => e = .returned (.int .i64 r) ∧ Below w.heap.size w w' := by
  have cl := fun (k : Nat) (h1 : 1 ≤ k) (h2 : k ≤ 1000) (W : World) (hW : Below w.heap.size w W) (o : Option (List Int)) (Ho : Hid (fillO are (fun x y => decide (x = y)) (candL true k) T [] = o)) =>
    leastProper_b T cn 79 k An #[] true are (fun x y => decide (x = y)) W (by omega) hT (hnear.below hW) ent_same
      (fun W' x y hx' hy' hW' => (same_b x y W').mono fun e w2 ⟨h1, h2⟩ => ⟨h1, h2 ▸ Below.refl _ _⟩) o Ho
  have Cl := Lib.hid cl
  clear cl hnear
  go_enter Try.func88, Try.ntmps88
  go_wp2
  go_loopw [1] (fun s wr => ∃ k : Nat, k0 ≤ k ∧ k ≤ r ∧ s = .int .i64 k ∧ Hid (Below w.heap.size w wr)) (fun s _ => r - (intOf s).toNat)
  case atStart => exact ⟨k0, Nat.le_refl _, hkr, rfl, (by show Below _ _ _; (repeat' (first | (with_reducible exact Below.refl _ _) | (with_reducible assumption) | (with_reducible refine Below.alloc ?_ ?_ _) | (with_reducible refine Below.drew ?_) | (with_reducible refine below_drewN ?_ _) | (with_reducible refine Below.setCell ?_ ?_ _) | (with_reducible refine Below.trans ?_ (Below.mono (by assumption) ?_)) | (first | omega | (simp only [World.size_alloc, World.size_setCell, World.size_drew]; omega) | (simp; omega) | (simp; done)))))⟩
  case round =>
    obtain ⟨k, hk1, hk2, rfl, Hbel⟩ := hrel
    obtain ⟨o, Ho⟩ : ∃ o, Hid (fillO are (fun x y => decide (x = y)) (candL true k) T [] = o) := ⟨_, rfl⟩
    have ct := Cl.out k (by omega) (by omega) wr Hbel.out o Ho
    have hokk : Hid (okK are T k = o.isSome) := by show _ = _; rw [← Ho.out]; rfl
    by_cases hlt : k < r
    · have ho : o.isSome = false := by rw [← hokk.out]; exact hno.out k hk1 hlt
      go_wp2_with fail
      refine ct.mono ?_
      rintro e w2 ⟨rfl, hb2, _⟩
      have Hb2 : Hid (Below w.heap.size w w2) := Hbel.out.trans (hb2.mono Hbel.out.size)
      clear hb2 ct
      rw [ho]
      go_wp2
      refine ⟨⟨k + 1, by omega, by omega, by go_num, Hb2⟩, by simp [intOf]; omega⟩
    · obtain rfl : k = r := by omega
      have ho : o.isSome = true := by rw [← hokk.out]; exact hok.out
      go_wp2_with fail
      refine ct.mono ?_
      rintro e w2 ⟨rfl, hb2, _⟩
      have Hb2 : Hid (Below w.heap.size w w2) := Hbel.out.trans (hb2.mono Hbel.out.size)
      clear hb2 ct
      rw [ho]
      go_wp2
      go_ret
      exact ⟨rfl, Hb2.out⟩
end Go.Proofs.Ytkpnplldnihalaa
