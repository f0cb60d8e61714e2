/- Lists of ints in the laws: toInt64S, eqInt64S; the numbers of circular colourings. -/
import Derived.Test.YtigdfcigoejjjaaNe5
namespace Go.Proofs.Ytigdfcigoejjjaa
open Go.RowKit
set_option linter.unusedSimpArgs false
set_option linter.unusedVariables false
set_option maxRecDepth 20000

/-- What the copy holds after k rounds. -/
def upToI (xs : List Int) (k : Nat) : List Int := xs.take k ++ List.replicate (xs.length - k) 0
theorem upToI_zero (xs : List Int) : upToI xs 0 = List.replicate xs.length 0 := by simp [upToI]
theorem upToI_all (xs : List Int) : upToI xs xs.length = xs := by simp [upToI]
theorem upToI_len (xs : List Int) (k : Nat) (h : k ≤ xs.length) : (upToI xs k).length = xs.length := by simp [upToI]; omega
theorem upToI_set (xs : List Int) (k : Nat) (h : k < xs.length) : (upToI xs k).set k xs[k] = upToI xs (k + 1) := by
  have h1 : xs.length - k = (xs.length - (k + 1)) + 1 := by omega
  have h2 : (xs.take k).length = k := by simp; omega
  rw [upToI, upToI, h1, List.replicate_succ, List.set_append_right _ _ (by simp; omega), h2, Nat.sub_self, List.set_cons_zero, List.take_succ_eq_append_getElem h, List.append_assoc]; rfl

set_option maxHeartbeats 400000 in
theorem toInt64S_any (A : Option Addr) (c : Nat) (xs : List Int) (w : World) (hl : xs.length ≤ 1048576) (hr : RdI w A xs) :
    Calls Try.prog 12 #[.slice A xs.length c] w fun e w' => e = .returned (.slice (some ⟨w.heap.size, 0, none⟩) xs.length xs.length) ∧ Blk w' w.heap.size 2 (cI xs).toArray ∧ Below w.heap.size w w' := by
  have hmk := mk_row Try.underlying25 infoI xs.length (by omega) (by omega)
  simp only [made_int] at hmk
  go_enter Try.func12, Try.ntmps12
  go_wp2
  go_loopw [4] (fun i wr => ∃ k : Nat, k ≤ xs.length ∧ i = .int .i64 k ∧ Blk wr w.heap.size 2 (cI (upToI xs k)).toArray ∧ Below w.heap.size w wr) (fun i _ => xs.length - (intOf i).toNat)
  case atStart => exact ⟨0, Nat.zero_le _, rfl, by rw [upToI_zero]; exact Blk.new _ _ _, by (repeat' (first | (with_reducible exact Below.refl _ _) | (with_reducible assumption) | (with_reducible refine Below.alloc ?_ ?_ _) | (with_reducible refine Below.drew ?_) | (with_reducible refine below_drewN ?_ _) | (with_reducible refine Below.setCell ?_ ?_ _) | (with_reducible refine Below.trans ?_ (Below.mono (by assumption) ?_)) | (first | omega | (simp only [World.size_alloc, World.size_setCell, World.size_drew]; omega) | (simp; omega) | (simp; done))))⟩
  case round =>
    obtain ⟨k, hk, rfl, hB, hbel⟩ := hrel
    by_cases hlt : k < xs.length
    · obtain ⟨b, off, rfl, hb, hc⟩ := (hr.below hbel).pos (by omega)
      have hc0 := (hc k hlt)
      clear hc hr
      have d0 := blkI_cell hB (j := k) (by rw [upToI_len xs k hk]; exact hlt)
      have f0 := hB.frozen k
      have hB2 := blkI_set hB (upToI_set xs k hlt)
      have HB := Lib.hid hB; clear hB
      have HB2 := Lib.hid hB2; clear hB2
      go_wp2
      go_roundw
      case rel => exact ⟨k + 1, by omega, by go_num, HB2.out, hbel.setCell (Nat.le_refl _) _⟩
      case measure => simp [intOf]; omega
    · obtain rfl : k = xs.length := by omega
      rw [upToI_all] at hB
      have HB := Lib.hid hB; clear hB
      go_wp2
      go_ret
      exact ⟨rfl, HB.out, hbel⟩

set_option maxHeartbeats 400000 in
theorem eqInt64S_same (A A' : Option Addr) (c c' : Nat) (xs : List Int) (n : Nat) (w : World) (Hn : Hid (xs.length = n)) (hl : n ≤ 1048576) (hr : RdI w A xs) (hr' : RdI w A' xs) :
    Calls Try.prog 16 #[.slice A n c, .slice A' n c'] w fun e w' => e = .returned (.bool true) ∧ Below w.heap.size w w' := by
  go_enter Try.func16, Try.ntmps16
  go_wp2
  go_loopw [5] (fun i wr => ∃ k : Nat, k ≤ n ∧ i = .int .i64 k ∧ Below w.heap.size w wr) (fun i _ => n - (intOf i).toNat)
  case atStart => exact ⟨0, Nat.zero_le _, rfl, by (repeat' (first | (with_reducible exact Below.refl _ _) | (with_reducible assumption) | (with_reducible refine Below.alloc ?_ ?_ _) | (with_reducible refine Below.drew ?_) | (with_reducible refine below_drewN ?_ _) | (with_reducible refine Below.setCell ?_ ?_ _) | (with_reducible refine Below.trans ?_ (Below.mono (by assumption) ?_)) | (first | omega | (simp only [World.size_alloc, World.size_setCell, World.size_drew]; omega) | (simp; omega) | (simp; done))))⟩
  case round =>
    obtain ⟨k, hk, rfl, hbel⟩ := hrel
    by_cases hlt : k < n
    · obtain ⟨b, off, rfl, hb, hc⟩ := (hr.below hbel).pos (by have := Hn.out; omega)
      obtain ⟨b', off', rfl, hb', hc'⟩ := (hr'.below hbel).pos (by have := Hn.out; omega)
      have hc0 := hc k (by have := Hn.out; omega)
      have hd0 := hc' k (by have := Hn.out; omega)
      clear hc hc' hr hr'
      obtain ⟨x, Hx⟩ : ∃ x, Hid (xs.getD k 0 = x) := ⟨_, rfl⟩
      rw [Hx.out] at hc0 hd0
      have nb : (x != x) = false := by simp
      have nb2 : (x == x) = true := by simp
      go_wp2
      go_quiet (fail)
      go_wp2
      refine ⟨⟨k + 1, by omega, by go_num, by (repeat' (first | (with_reducible exact Below.refl _ _) | (with_reducible assumption) | (with_reducible refine Below.alloc ?_ ?_ _) | (with_reducible refine Below.drew ?_) | (with_reducible refine below_drewN ?_ _) | (with_reducible refine Below.setCell ?_ ?_ _) | (with_reducible refine Below.trans ?_ (Below.mono (by assumption) ?_)) | (first | omega | (simp only [World.size_alloc, World.size_setCell, World.size_drew]; omega) | (simp; omega) | (simp; done))))⟩, by simp [intOf]; omega⟩
    · obtain rfl : k = n := by omega
      go_wp2
      go_ret
      exact ⟨rfl, hbel⟩

/-- whether k and d are numbers of circular colourings -/
def circB (k d : Int) : Bool := inB k 2 14 && inB d 1 (k / 2)
/-- whether two numbers are apart -/
def apartB (k d x y : Int) : Bool := decide (d ≤ max (x - y) (y - x)) && decide (max (x - y) (y - x) ≤ k - d)
end Go.Proofs.Ytigdfcigoejjjaa
