/- Lists of ints in the laws: toInt64S, eqInt64S; the numbers of circular colourings. -/
import Derived.Test.YtkpnplldnihalaaNe5
namespace Go.Proofs.Ytkpnplldnihalaa
open Go.RowKit
set_option linter.unusedSimpArgs false
set_option linter.unusedVariables false
set_option maxRecDepth 20000

/-- What the copy holds after k rounds. -/
def upToI (xs : List Int) (k : Nat) : List Int := xs.take k ++ List.replicate (xs.length - k) 0
theorem upToI_zero (xs : List Int) : upToI xs 0 = List.replicate xs.length 0 := by simp [upToI]
theorem upToI_all (xs : List Int) : upToI xs xs.length = xs := by simp [upToI]
theorem upToI_len (xs : List Int) (k : Nat) (h : k ≤ xs.length) : (upToI xs k).length = xs.length := by simp [upToI]; omega
theorem upToI_set (xs : List Int) (k : Nat) (h : k < xs.length) : (upToI xs k).set k xs[k] = upToI xs (k + 1) := by
  have h1 : xs.length - k = (xs.length - (k + 1)) + 1 := by omega
  have h2 : (xs.take k).length = k := by simp; omega
  rw [upToI, upToI, h1, List.replicate_succ, List.set_append_right _ _ (by simp; omega), h2, Nat.sub_self, List.set_cons_zero, List.take_succ_eq_append_getElem h, List.append_assoc]; rfl

set_option maxHeartbeats 400000 in
theorem toInt64S_any (A : Option Addr) (c : Nat) (xs : List Int) (w : World) (hl : xs.length ≤ 1048576) (hr : RdI w A xs) :
    Calls Try.prog 34 #[.slice A xs.length c] w fun e w' => e = .returned (.slice (some ⟨w.heap.size, 0, none⟩) xs.length xs.length) ∧ Blk w' w.heap.size 2 (cI xs).toArray ∧ Below w.heap.size w w' := by
  have hmk := mk_row Try.underlying36 infoI xs.length (by omega) (by omega)
  simp only [made_int] at hmk
  go_enter Try.func34, Try.ntmps34
  go_wp2
  go_loopw [4] (fun i wr => ∃ k : Nat, k ≤ xs.length ∧ i = .int .i64 k ∧ Blk wr w.heap.size 2 (cI (upToI xs k)).toArray ∧ Below w.heap.size w wr) (fun i _ => xs.length - (intOf i).toNat)
  case atStart => exact ⟨0, Nat.zero_le _, rfl, by rw [upToI_zero]; exact Blk.new _ _ _, by (repeat' (first | (with_reducible exact Below.refl _ _) | (with_reducible assumption) | (with_reducible refine Below.alloc ?_ ?_ _) | (with_reducible refine Below.drew ?_) | (with_reducible refine below_drewN ?_ _) | (with_reducible refine Below.setCell ?_ ?_ _) | (with_reducible refine Below.trans ?_ (Below.mono (by assumption) ?_)) | (first | omega | (simp only [World.size_alloc, World.size_setCell, World.size_drew]; omega) | (simp; omega) | (simp; done))))⟩
  case round =>
    obtain ⟨k, hk, rfl, hB, hbel⟩ := hrel
    by_cases hlt : k < xs.length
    · obtain ⟨b, off, rfl, hb, hc⟩ := (hr.below hbel).pos (by omega)
      have hc0 := (hc k hlt)
      clear hc hr
      have d0 := blkI_cell hB (j := k) (by rw [upToI_len xs k hk]; exact hlt)
      have f0 := hB.frozen k
      have hB2 := blkI_set hB (upToI_set xs k hlt)
      have HB := Lib.hid hB; clear hB
      have HB2 := Lib.hid hB2; clear hB2
      go_wp2
      go_roundw
      case rel => exact ⟨k + 1, by omega, by go_num, HB2.out, hbel.setCell (Nat.le_refl _) _⟩
      case measure => simp [intOf]; omega
    · obtain rfl : k = xs.length := by omega
      rw [upToI_all] at hB
      have HB := Lib.hid hB; clear hB
      go_wp2
      go_ret
      exact ⟨rfl, HB.out, hbel⟩

set_option maxHeartbeats 400000 in
theorem eqInt64S_same (A A' : Option Addr) (c c' : Nat) (xs : List Int) (n : Nat) (w : World) (Hn : Hid (xs.length = n)) (hl : n ≤ 1048576) (hr : RdI w A xs) (hr' : RdI w A' xs) :
    Calls Try.prog 29 #[.slice A n c, .slice A' n c'] w fun e w' => e = .returned (.bool true) ∧ Below w.heap.size w w' := by
  go_enter Try.func29, Try.ntmps29
  go_wp2
  go_loopw [5] (fun i wr => ∃ k : Nat, k ≤ n ∧ i = .int .i64 k ∧ Below w.heap.size w wr) (fun i _ => n - (intOf i).toNat)
  case atStart => exact ⟨0, Nat.zero_le _, rfl, by (repeat' (first | (with_reducible exact Below.refl _ _) | (with_reducible assumption) | (with_reducible refine Below.alloc ?_ ?_ _) | (with_reducible refine Below.drew ?_) | (with_reducible refine below_drewN ?_ _) | (with_reducible refine Below.setCell ?_ ?_ _) | (with_reducible refine Below.trans ?_ (Below.mono (by assumption) ?_)) | (first | omega | (simp only [World.size_alloc, World.size_setCell, World.size_drew]; omega) | (simp; omega) | (simp; done))))⟩
  case round =>
    obtain ⟨k, hk, rfl, hbel⟩ := hrel
    by_cases hlt : k < n
    · obtain ⟨b, off, rfl, hb, hc⟩ := (hr.below hbel).pos (by have := Hn.out; omega)
      obtain ⟨b', off', rfl, hb', hc'⟩ := (hr'.below hbel).pos (by have := Hn.out; omega)
      have hc0 := hc k (by have := Hn.out; omega)
      have hd0 := hc' k (by have := Hn.out; omega)
      clear hc hc' hr hr'
      obtain ⟨x, Hx⟩ : ∃ x, Hid (xs.getD k 0 = x) := ⟨_, rfl⟩
      rw [Hx.out] at hc0 hd0
      have nb : (x != x) = false := by simp
      have nb2 : (x == x) = true := by simp
      go_wp2
      go_quiet (fail)
      go_wp2
      refine ⟨⟨k + 1, by omega, by go_num, by (repeat' (first | (with_reducible exact Below.refl _ _) | (with_reducible assumption) | (with_reducible refine Below.alloc ?_ ?_ _) | (with_reducible refine Below.drew ?_) | (with_reducible refine below_drewN ?_ _) | (with_reducible refine Below.setCell ?_ ?_ _) | (with_reducible refine Below.trans ?_ (Below.mono (by assumption) ?_)) | (first | omega | (simp only [World.size_alloc, World.size_setCell, World.size_drew]; omega) | (simp; omega) | (simp; done))))⟩, by simp [intOf]; omega⟩
    · obtain rfl : k = n := by omega
      go_wp2
      go_ret
      exact ⟨rfl, hbel⟩

/-- whether k and d are numbers of circular colourings -/
def circB (k d : Int) : Bool := inB k 2 14 && inB d 1 (k / 2)
set_option maxHeartbeats 400000 in
theorem isCircle_b (k d : Int) (w : World) (q : Bool) (hq : Hid (circB k d = q)) :
    Calls Try.prog 83 #[.int .i64 k, .int .i64 d] w fun e w' => e = .returned (.bool q) ∧ w = w' := by
  obtain ⟨q1, h1⟩ : ∃ q1, Hid (inB k 2 14 = q1) := ⟨_, rfl⟩
  obtain ⟨q2, h2⟩ : ∃ q2, Hid (inB d 1 (k / 2) = q2) := ⟨_, rfl⟩
  have Hq : Hid ((q1 && q2) = q) := by show _ = _; rw [← hq.out, circB, h1.out, h2.out]
  cases q1
  · clear hq
    go_enter Try.func83, Try.ntmps83
    go_wp2_with fail
    refine (within_b _ _ _ _ _ h1).mono ?_
    rintro e w1 ⟨rfl, rfl⟩
    go_wp2
    go_ret
    exact ⟨by rw [← Hq.out]; rfl, rfl⟩
  · have hb := inB_true.1 h1.out
    have hw2 : k.tdiv 2 = k / 2 := Int.tdiv_eq_ediv_of_nonneg (by omega)
    have hw : wrap64 (k / 2) = k / 2 := wrap64_small (by omega) (by omega)
    have c2 := fun W => within_b d 1 (k / 2) W q2 h2
    clear hq
    go_enter Try.func83, Try.ntmps83
    go_wp2_with fail
    refine (within_b _ _ _ _ _ h1).mono ?_
    rintro e w1 ⟨rfl, rfl⟩
    go_wp2_with fail
    refine (c2 _).mono ?_
    rintro e w1 ⟨rfl, rfl⟩
    go_wp2
    go_ret
    exact ⟨by rw [← Hq.out]; rfl, rfl⟩
set_option maxHeartbeats 400000 in
theorem l08Numbers_b (k d : Int) (w : World) (q : Bool) (hq : Hid (circB k d = q)) :
    Calls Try.prog 80 #[.int .i64 k, .int .i64 d] w fun e w' => e = .returned (.bool q) ∧ w = w' := by
  obtain ⟨q1, h1⟩ : ∃ q1, Hid (inB k 2 14 = q1) := ⟨_, rfl⟩
  obtain ⟨q2, h2⟩ : ∃ q2, Hid (inB d 1 (k / 2) = q2) := ⟨_, rfl⟩
  have Hq : Hid ((q1 && q2) = q) := by show _ = _; rw [← hq.out, circB, h1.out, h2.out]
  cases q1
  · clear hq
    go_enter Try.func80, Try.ntmps80
    go_wp2_with fail
    refine (l01In_b _ _ _ _ _ h1).mono ?_
    rintro e w1 ⟨rfl, rfl⟩
    go_wp2
    go_ret
    exact ⟨by rw [← Hq.out]; rfl, rfl⟩
  · have hb := inB_true.1 h1.out
    have hw2 : k.tdiv 2 = k / 2 := Int.tdiv_eq_ediv_of_nonneg (by omega)
    have hw : wrap64 (k / 2) = k / 2 := wrap64_small (by omega) (by omega)
    have c2 := fun W => l01In_b d 1 (k / 2) W q2 h2
    clear hq
    go_enter Try.func80, Try.ntmps80
    go_wp2_with fail
    refine (l01In_b _ _ _ _ _ h1).mono ?_
    rintro e w1 ⟨rfl, rfl⟩
    go_wp2_with fail
    refine (c2 _).mono ?_
    rintro e w1 ⟨rfl, rfl⟩
    go_wp2
    go_ret
    exact ⟨by rw [← Hq.out]; rfl, rfl⟩

/-- whether two numbers are apart -/
def apartB (k d x y : Int) : Bool := decide (d ≤ max (x - y) (y - x)) && decide (max (x - y) (y - x) ≤ k - d)
set_option maxHeartbeats 400000 in
theorem l08Apart_b (k d x y : Int) (w : World) (q : Bool) (hq : Hid (apartB k d x y = q)) (hk : 0 ≤ k ∧ k ≤ 14) (hd : 0 ≤ d ∧ d ≤ 14) (hx : 0 ≤ x ∧ x ≤ 14) (hy : 0 ≤ y ∧ y ≤ 14) :
    Calls Try.prog 116 #[.int .i64 k, .int .i64 d, .int .i64 x, .int .i64 y] w fun e w' => e = .returned (.bool q) ∧ w = w' := by
  have hw1 : wrap64 (x - y) = x - y := wrap64_small (by omega) (by omega)
  have hw2 : wrap64 (y - x) = y - x := wrap64_small (by omega) (by omega)
  have hw3 : wrap64 (k - d) = k - d := wrap64_small (by omega) (by omega)
  obtain ⟨r, hr, hr1⟩ : ∃ r, Hid (max (x - y) (y - x) = r) ∧ -14 ≤ r ∧ r ≤ 14 := ⟨_, rfl, by omega, by omega⟩
  have Hq : Hid ((decide (d ≤ r) && decide (r ≤ k - d)) = q) := by show _ = _; rw [← hq.out, apartB, hr.out]
  clear hq
  by_cases h : x - y < y - x
  · obtain rfl : y - x = r := by have := hr.out; omega
    by_cases h2 : d ≤ y - x
    all_goals
      have Hq2 := Hq.out
      simp only [h2, decide_true, decide_false, Bool.true_and, Bool.false_and] at Hq2
      have HQ := Lib.hid Hq2
      clear Hq Hq2
      go_enter Try.func116, Try.ntmps116
      go_wp2
      go_ret
      exact ⟨by rw [← HQ.out]; rfl, rfl⟩
  · obtain rfl : x - y = r := by have := hr.out; omega
    by_cases h2 : d ≤ x - y
    all_goals
      have Hq2 := Hq.out
      simp only [h2, decide_true, decide_false, Bool.true_and, Bool.false_and] at Hq2
      have HQ := Lib.hid Hq2
      clear Hq Hq2
      go_enter Try.func116, Try.ntmps116
      go_wp2
      go_ret
      exact ⟨by rw [← HQ.out]; rfl, rfl⟩

theorem ent_circle1 : Ent 119 := enters_of Try.func119 (by kernel_rfl) rfl
set_option maxHeartbeats 400000 in
theorem circle1_b (g0 g1 : Nat) (k d x y : Int) (w : World) (q : Bool) (hq : Hid ((!apartB k d x y) = q)) (hk : 0 ≤ k ∧ k ≤ 14) (hd : 0 ≤ d ∧ d ≤ 14) (hx : 0 ≤ x ∧ x ≤ 14) (hy : 0 ≤ y ∧ y ≤ 14)
    (hc0 : w.cell? ⟨g0, 0, none⟩ = some (.int .i64 k)) (hc1 : w.cell? ⟨g1, 0, none⟩ = some (.int .i64 d)) :
    Calls Try.prog 119 #[.int .i64 x, .int .i64 y, .pointer (some ⟨g1, 0, none⟩), .pointer (some ⟨g0, 0, none⟩)] w fun e w' => e = .returned (.bool q) ∧ w = w' := by
  have hw1 : wrap64 (x - y) = x - y := wrap64_small (by omega) (by omega)
  have hw2 : wrap64 (y - x) = y - x := wrap64_small (by omega) (by omega)
  have hw3 : wrap64 (k - d) = k - d := wrap64_small (by omega) (by omega)
  obtain ⟨r, hr, hr1⟩ : ∃ r, Hid (max (x - y) (y - x) = r) ∧ -14 ≤ r ∧ r ≤ 14 := ⟨_, rfl, by omega, by omega⟩
  have Hq : Hid ((decide (r < d) || decide (k - d < r)) = q) := by
    show _ = _; rw [← hq.out, apartB, hr.out]
    by_cases h1 : d ≤ r <;> by_cases h2 : r ≤ k - d <;> simp [h1, h2] <;> omega
  clear hq
  by_cases h : x - y < y - x
  · obtain rfl : y - x = r := by have := hr.out; omega
    by_cases h2 : y - x < d
    all_goals
      have Hq2 := Hq.out
      simp only [h2, decide_true, decide_false, Bool.true_or, Bool.false_or] at Hq2
      have HQ := Lib.hid Hq2
      clear Hq Hq2
      go_enter Try.func119, Try.ntmps119
      go_wp2
      go_ret
      exact ⟨by rw [← HQ.out]; rfl, rfl⟩
  · obtain rfl : x - y = r := by have := hr.out; omega
    by_cases h2 : x - y < d
    all_goals
      have Hq2 := Hq.out
      simp only [h2, decide_true, decide_false, Bool.true_or, Bool.false_or] at Hq2
      have HQ := Lib.hid Hq2
      clear Hq Hq2
      go_enter Try.func119, Try.ntmps119
      go_wp2
      go_ret
      exact ⟨by rw [← HQ.out]; rfl, rfl⟩

set_option maxHeartbeats 400000 in
theorem circle_b (k d : Int) (w : World) :
    Calls Try.prog 86 #[.int .i64 k, .int .i64 d] w fun e w' => e = .returned (.func (.func 119) #[] #[.pointer (some ⟨w.heap.size + 1, 0, none⟩), .pointer (some ⟨w.heap.size, 0, none⟩)]) ∧ Blk w' w.heap.size 2 #[.int .i64 k] ∧ Blk w' (w.heap.size + 1) 2 #[.int .i64 d] ∧ Below w.heap.size w w' := by
  have hmf : ∀ (fn : Fn) (first cap : Array Value) (w : World), (Instr.makeFunc fn first cap).run Try.prog w = .ok (.func fn first cap) w := fun _ _ _ _ => rfl
  go_enter Try.func86, Try.ntmps86
  go_wp2
  go_ret
  exact ⟨rfl, (Blk.new _ _ _).alloc _, Blk.new' _ (by simp), by (repeat' (first | (with_reducible exact Below.refl _ _) | (with_reducible assumption) | (with_reducible refine Below.alloc ?_ ?_ _) | (with_reducible refine Below.drew ?_) | (with_reducible refine below_drewN ?_ _) | (with_reducible refine Below.setCell ?_ ?_ _) | (with_reducible refine Below.trans ?_ (Below.mono (by assumption) ?_)) | (first | omega | (simp only [World.size_alloc, World.size_setCell, World.size_drew]; omega) | (simp; omega) | (simp; done))))⟩
end Go.Proofs.Ytkpnplldnihalaa
