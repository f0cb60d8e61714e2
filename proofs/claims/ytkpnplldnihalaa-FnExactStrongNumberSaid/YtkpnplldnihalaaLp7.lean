/- The reference's l08Least. -/
import Derived.Test.YtkpnplldnihalaaLp6
namespace Go.Proofs.Ytkpnplldnihalaa
open Go.RowKit
set_option linter.unusedSimpArgs false
set_option linter.unusedVariables false
set_option maxRecDepth 20000

set_option maxHeartbeats 2000000 in
theorem l08Least_b (g off c T r : Nat) (R : Nat → Nat) (M : Nat → Nat → Int) (w : World) (hr1 : 1 ≤ r) (hr : r ≤ 1000) (hT : T ≤ 1000) (hok : Hid (okK (areM M) T r = true)) (hno : Hid (∀ j, 1 ≤ j → j < r → okK (areM M) T j = false)) (hM : Mat w g off T T R M) :
    Calls Try.prog 87 #[.slice (some ⟨g, off, none⟩) T c] w fun e w' => e = .returned (.int .i64 r) ∧ Below w.heap.size w w' := by
  have Hm : Hid (∀ W, Below w.heap.size w W → Mat W g off T T R M) := fun W hW => hM.keep hW
  have cl := fun (k : Nat) (h1 : 1 ≤ k) (h2 : k ≤ 1000) (W : World) (hW : Hid (Below w.heap.size w W)) (b : Nat) (o : Option (List Int)) (Ho : Hid (fillO (areM M) (fun x y => decide (x = y)) (candF k) T [] = o)) =>
    Ho.out ▸ fill_b g off c T R M k w (by omega) hT Hm T 0 b 0 0 [] W (by omega) rfl (.inl rfl) (fun j hj => by omega) hW
  have Cl := Lib.hid cl
  clear cl Hm hM
  go_enter Try.func87, Try.ntmps87
  go_wp2
  go_loopw [3] (fun s wr => ∃ k : Nat, 1 ≤ k ∧ k ≤ r ∧ s = .int .i64 k ∧ Hid (Below w.heap.size w wr)) (fun s _ => r - (intOf s).toNat)
  case atStart => exact ⟨1, Nat.le_refl _, hr1, rfl, (by show Below _ _ _; (repeat' (first | (with_reducible exact Below.refl _ _) | (with_reducible assumption) | (with_reducible refine Below.alloc ?_ ?_ _) | (with_reducible refine Below.drew ?_) | (with_reducible refine below_drewN ?_ _) | (with_reducible refine Below.setCell ?_ ?_ _) | (with_reducible refine Below.trans ?_ (Below.mono (by assumption) ?_)) | (first | omega | (simp only [World.size_alloc, World.size_setCell, World.size_drew]; omega) | (simp; omega) | (simp; done)))))⟩
  case round =>
    obtain ⟨k, hk1, hk2, rfl, Hbel⟩ := hrel
    obtain ⟨o, Ho⟩ : ∃ o, Hid (fillO (areM M) (fun x y => decide (x = y)) (candF k) T [] = o) := ⟨_, rfl⟩
    have Hb1 : Hid (Below w.heap.size w (wr.alloc (.cells #[] 2))) := Hbel.out.alloc Hbel.out.size _
    have ct := Cl.out k (by omega) (by omega) (wr.alloc (.cells #[] 2)) Hb1 wr.heap.size o Ho
    have hokk : Hid (okK (areM M) T k = o.isSome) := by show _ = _; rw [← Ho.out]; rfl
    by_cases hlt : k < r
    · have ho : o.isSome = false := by rw [← hokk.out]; exact hno.out k hk1 hlt
      go_wp2_with fail
      refine ct.mono ?_
      rintro e w2 ⟨rfl, hb2⟩
      have Hb2 : Hid (Below w.heap.size w w2) := Hb1.out.trans (hb2.mono Hb1.out.size)
      clear hb2 ct
      rw [ho]
      go_wp2
      refine ⟨⟨k + 1, by omega, by omega, by go_num, Hb2⟩, by simp [intOf]; omega⟩
    · obtain rfl : k = r := by omega
      have ho : o.isSome = true := by rw [← hokk.out]; exact hok.out
      go_wp2_with fail
      refine ct.mono ?_
      rintro e w2 ⟨rfl, hb2⟩
      have Hb2 : Hid (Below w.heap.size w w2) := Hb1.out.trans (hb2.mono Hb1.out.size)
      clear hb2 ct
      rw [ho]
      go_wp2
      go_ret
      exact ⟨rfl, Hb2.out⟩
end Go.Proofs.Ytkpnplldnihalaa
