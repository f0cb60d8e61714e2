/- star, and the edges of flower graphs. No statement of the program is proved here. -/
import Derived.Test.YtblidpodbpoaeaaGo1
namespace Go.Proofs.Ytblidpodbpoaeaa
open Go.RowKit
set_option linter.unusedSimpArgs false
set_option linter.unusedVariables false
set_option maxRecDepth 20000

def starE (v : Int) (us : List Int) : List (Int × Int) := us.map fun u => (v, u)
set_option maxHeartbeats 4000000 in
theorem star_b (v : Int) (A : Option Addr) (c : Nat) (us : List Int) (w : World) (hl : us.length ≤ 10000) (hr : RdI w A us) :
    Calls Try.prog 34 #[.int .i64 v, .slice A us.length c] w fun e w' => ∃ A' c', e = .returned (.slice A' us.length c') ∧ FrE w' w.heap.size A' (starE v us) ∧ Below w.heap.size w w' := by
  have Hre : Hid (∀ W, Below w.heap.size w W → RdI W A us) := fun W hW => hr.below hW
  clear hr
  obtain ⟨m, Hm⟩ : ∃ m, Hid (us.length = m) := ⟨_, rfl⟩
  rw [Hm.out] at hl ⊢
  go_enter Try.func34, Try.ntmps34
  go_wp2
  go_loopw [5, 10] (fun s i wr => ∃ k : Nat, k ≤ m ∧ i = .int .i64 k ∧ Hid (wr.ownsRow w.heap.size 54 2 s k (cE (starE v (us.take k)))) ∧ Hid (Below w.heap.size w wr)) (fun _ i _ => m - (intOf i).toNat)
  case atStart => exact ⟨0, Nat.zero_le _, rfl, own_nilE _ _ _, Below.refl _ _⟩
  case round =>
    obtain ⟨k, hk, rfl, Hown, Hbel⟩ := hrel
    obtain ⟨A1, c1, rfl⟩ := own_form Hown.out
    have hsz := Hbel.out.size
    by_cases hlt : k < m
    · obtain ⟨b, off, rfl, hb, hc⟩ := (Hre.out wr Hbel.out).pos (by rw [Hm.out]; omega)
      have hc0 := hc k (by rw [Hm.out]; exact hlt)
      obtain ⟨x, Hx⟩ : ∃ x, Hid (us.getD k 0 = x) := ⟨_, rfl⟩
      rw [Hx.out] at hc0
      clear hc
      obtain ⟨P, HP⟩ : ∃ P, Hid (starE v (us.take k) = P) := ⟨_, rfl⟩
      rw [HP.out] at Hown
      obtain ⟨ek, ek2, ek3⟩ := idxF k m hlt
      have hB3 : Below w.heap.size w (wr.alloc (.cells #[.int .i64 v, .int .i64 x] 54)) := by have := Hbel.out; (repeat' (first | (with_reducible exact Below.refl _ _) | (with_reducible assumption) | (with_reducible refine Below.alloc ?_ ?_ _) | (with_reducible refine Below.drew ?_) | (with_reducible refine below_drewN ?_ _) | (with_reducible refine Below.setCell ?_ ?_ _) | (with_reducible refine Below.trans ?_ (Below.mono (by assumption) ?_)) | (first | omega | (simp only [World.size_alloc, World.size_setCell, World.size_drew]; omega) | (simp; omega) | (simp; done))))
      have hown2 := own_below Hown.out (show Below wr.heap.size wr (wr.alloc (.cells #[.int .i64 v, .int .i64 x] 54)) by (repeat' (first | (with_reducible exact Below.refl _ _) | (with_reducible assumption) | (with_reducible refine Below.alloc ?_ ?_ _) | (with_reducible refine Below.drew ?_) | (with_reducible refine below_drewN ?_ _) | (with_reducible refine Below.setCell ?_ ?_ _) | (with_reducible refine Below.trans ?_ (Below.mono (by assumption) ?_)) | (first | omega | (simp only [World.size_alloc, World.size_setCell, World.size_drew]; omega) | (simp; omega) | (simp; done)))))
      have hnew : RdE (wr.alloc (.cells #[.int .i64 v, .int .i64 x] 54)) (some ⟨wr.heap.size, 0, none⟩) [(v, x)] :=
        blkE_rd (t := 54) (es := [(v, x)]) (Blk.new' _ rfl)
      go_wp2_with (first
        | (at_builtin; refine wpList_appendE rfl rfl w.heap.size _ k P rfl hown2 wr.heap.size 0 1 1 [(v, x)] rfl rfl hnew (by omega) (by omega) (by simp; omega) ?_))
      intro v' w3 hown3 hfr hgr
      have hb3 := hfr w.heap.size w (Nat.le_refl _) hB3
      obtain ⟨g, c2, rfl, hg1, hg2⟩ := own_someI hown3 (by omega)
      have Hown3 : Hid (w3.ownsRow w.heap.size 54 2 (.slice (some ⟨g, 0, none⟩) (k + 1) c2) (k + 1) (cE (starE v (us.take (k + 1))))) := by
        show World.ownsRow _ _ _ _ _ _ _
        have h9 : us.take (k + 1) = us.take k ++ [us.getD k 0] := by
          rw [List.take_add_one, List.getElem?_eq_getElem (by rw [Hm.out]; exact hlt)]
          simp [List.getD, Hm.out, hlt]
        rw [h9, show starE v (us.take k ++ [us.getD k 0]) = P ++ [(v, x)] by rw [← HP.out, ← Hx.out]; simp [starE]]
        exact hown3
      have Hb3 : Hid (Below w.heap.size w w3) := hb3
      clear hown3 hfr hgr hb3 hown2 hnew hB3 Hown hc0
      go_wp2
      exact ⟨⟨k + 1, by omega, by go_num, Hown3, Hb3⟩, by simp [intOf]; omega⟩
    · obtain rfl : k = m := by omega
      go_wp2
      go_ret
      have hfull : us.take k = us := List.take_of_length_le (by rw [Hm.out]; exact Nat.le_refl _)
      rw [hfull] at Hown
      exact ⟨A1, c1, rfl, own_frE Hown.out, Hbel.out⟩

/-- The edges of one stalk. -/
def flow4 (k i : Int) : List (Int × Int) := [(i, k + i), (i, 2 * k + i), (i, 3 * k + i), (k + i, k + (i + 1).tmod k)]
/-- The edge of the long round. -/
def flow1 (k i : Int) : Int × Int := (2 * k + i, 2 * k + (i + 1).tmod (2 * k))
def flowA (K j : Nat) : List (Int × Int) := (List.range j).flatMap fun (i : Nat) => flow4 K i
def flowB (K j : Nat) : List (Int × Int) := flowA K K ++ (List.range j).map fun (i : Nat) => flow1 K i
theorem flowA_zero (K : Nat) : flowA K 0 = [] := rfl
theorem flowA_succ (K j : Nat) : flowA K (j + 1) = flowA K j ++ flow4 K j := by simp [flowA, List.range_succ]
theorem flowB_zero (K : Nat) : flowB K 0 = flowA K K := by simp [flowB]
theorem flowB_succ (K j : Nat) : flowB K (j + 1) = flowB K j ++ [flow1 K j] := by simp [flowB, List.range_succ]
theorem flowA_len (K j : Nat) : (flowA K j).length = 4 * j := by
  induction j with
  | zero => rfl
  | succ j ih => rw [flowA_succ, List.length_append, ih]; simp [flow4]; omega
theorem flowB_len (K j : Nat) : (flowB K j).length = 4 * K + j := by simp [flowB, flowA_len]
end Go.Proofs.Ytblidpodbpoaeaa
