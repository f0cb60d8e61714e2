/- cmp.Compare, slices.Compare at ints. -/
import Derived.Test.YtblidpodbpoaeaaIs5
namespace Go.Proofs.Ytblidpodbpoaeaa
open Go.RowKit
set_option linter.unusedSimpArgs false
set_option linter.unusedVariables false

/-- cmp.Compare -/
def cmpI (a b : Int) : Int := if a < b then -1 else if b < a then 1 else 0
theorem cmpI_self (a : Int) : cmpI a a = 0 := by simp [cmpI]
theorem cmpI_zero {a b : Int} (h : cmpI a b = 0) : a = b := by
  unfold cmpI at h
  split at h
  · omega
  · split at h <;> omega
theorem cmpI_bd (a b : Int) : -1 ≤ cmpI a b ∧ cmpI a b ≤ 1 := by
  unfold cmpI
  split
  · omega
  · split <;> omega

set_option maxHeartbeats 400000 in
theorem isNaN_any (a : Int) (w : World) : Calls Try.prog 143 #[.int .i64 a] w fun e w' => e = .returned (.bool false) ∧ w = w' := by
  go_enter Try.func143, Try.ntmps143
  go_wp2
  go_ret
  exact ⟨by simp, rfl⟩
set_option maxHeartbeats 400000 in
theorem cmpCompare_b (a b : Int) (w : World) (r : Int) (hr : Hid (cmpI a b = r)) : Calls Try.prog 127 #[.int .i64 a, .int .i64 b] w fun e w' => e = .returned (.int .i64 r) ∧ w = w' := by
  by_cases h1 : a < b
  · have hd : decide (a < b) = true := by simpa using h1
    have Hr : Hid (-1 = r) := by show _ = _; rw [← hr.out]; simp [cmpI, h1]
    clear hr
    go_enter Try.func127, Try.ntmps127
    go_wp2_with (go_at_call 143; refine (isNaN_any _ _).mono ?_; rintro e w1 ⟨rfl, rfl⟩)
    go_ret
    exact ⟨by rw [← Hr.out]; rfl, rfl⟩
  · by_cases h2 : b < a
    · have Hr : Hid (1 = r) := by show _ = _; rw [← hr.out]; simp [cmpI, h1, h2]
      clear hr
      go_enter Try.func127, Try.ntmps127
      go_wp2_with (go_at_call 143; refine (isNaN_any _ _).mono ?_; rintro e w1 ⟨rfl, rfl⟩)
      go_ret
      exact ⟨by rw [← Hr.out]; rfl, rfl⟩
    · have Hr : Hid (0 = r) := by show _ = _; rw [← hr.out]; simp [cmpI, h1, h2]
      clear hr
      go_enter Try.func127, Try.ntmps127
      go_wp2_with (go_at_call 143; refine (isNaN_any _ _).mono ?_; rintro e w1 ⟨rfl, rfl⟩)
      go_ret
      exact ⟨by rw [← Hr.out]; rfl, rfl⟩

/-- slices.Compare -/
def cmpL : List Int → List Int → Int
  | [], [] => 0
  | [], _ :: _ => -1
  | _ :: _, [] => 1
  | x :: xs, y :: ys => if cmpI x y = 0 then cmpL xs ys else cmpI x y
theorem cmpL_drop (xs ys : List Int) (k : Nat) (h1 : k < xs.length) (h2 : k < ys.length) : cmpL (xs.drop k) (ys.drop k) = if cmpI (xs.getD k 0) (ys.getD k 0) = 0 then cmpL (xs.drop (k + 1)) (ys.drop (k + 1)) else cmpI (xs.getD k 0) (ys.getD k 0) := by
  rw [List.drop_eq_getElem_cons h1, List.drop_eq_getElem_cons h2, cmpL]
  simp [List.getD_eq_getElem?_getD, List.getElem?_eq_getElem h1, List.getElem?_eq_getElem h2]
theorem cmpL_right (xs ys : List Int) (k : Nat) (h1 : k < xs.length) (h2 : ys.length ≤ k) : cmpL (xs.drop k) (ys.drop k) = 1 := by
  rw [List.drop_eq_getElem_cons h1, List.drop_of_length_le h2, cmpL]
theorem cmpL_left (xs ys : List Int) (k : Nat) (h1 : xs.length ≤ k) : cmpL (xs.drop k) (ys.drop k) = if k < ys.length then -1 else 0 := by
  rw [List.drop_of_length_le h1]
  by_cases h : k < ys.length
  · rw [List.drop_eq_getElem_cons h, if_pos h, cmpL]
  · rw [List.drop_of_length_le (by omega), if_neg h, cmpL]

set_option maxHeartbeats 1000000 in
theorem slicesCompare_b (A A' : Option Addr) (c c' : Nat) (n n' : Nat) (xs ys : List Int) (w : World) (r : Int) (hr : Hid (cmpL xs ys = r)) (hn : Hid (xs.length = n)) (hn' : Hid (ys.length = n')) (hl : n ≤ 1048576) (hl' : n' ≤ 1048576) (hx : RdI w A xs) (hy : RdI w A' ys) :
    Calls Try.prog 100 #[.slice A n c, .slice A' n' c'] w fun e w' => e = .returned (.int .i64 r) ∧ w = w' := by
  go_enter Try.func100, Try.ntmps100
  go_wp2
  go_loop [11] (fun i => ∃ k : Nat, k ≤ n ∧ k ≤ n' ∧ i = .int .i64 k ∧ Hid (cmpL (xs.drop k) (ys.drop k) = r)) (fun i => n - (intOf i).toNat)
  case atStart => exact ⟨0, Nat.zero_le _, Nat.zero_le _, rfl, hr⟩
  case round =>
    obtain ⟨k, hk, hk', rfl, hE⟩ := hrel
    by_cases hlt : k < n
    · obtain ⟨b, off, rfl, hb, hc⟩ := hx.pos (by have := hn.out; omega)
      have hc0 := (hc k (by have := hn.out; omega))
      clear hc
      by_cases hlt' : k < n'
      · obtain ⟨b', off', rfl, hb', hc'⟩ := hy.pos (by have := hn'.out; omega)
        have hd0 := (hc' k (by have := hn'.out; omega))
        clear hc' hx hy
        obtain ⟨q, Hq⟩ : ∃ q, Hid (cmpI (xs.getD k 0) (ys.getD k 0) = q) := ⟨_, rfl⟩
        generalize hx : xs.getD k 0 = x at *
        generalize hy : ys.getD k 0 = y at *
        have Hx := Lib.hid hx; have Hy := Lib.hid hy; clear hx hy
        by_cases hq : q = 0
        · have hq1 : (q == 0) = true := by simpa using hq
          have hq2 : (q != 0) = false := by simpa using hq
          have HQ := Lib.hid hq; clear hq
          go_wp2_with (go_at_call 127; refine (cmpCompare_b _ _ _ _ Hq).mono ?_; rintro e w1 ⟨rfl, rfl⟩)
          refine ⟨⟨k + 1, by omega, by omega, by go_num, ?_⟩, by simp [intOf]; omega⟩
          have := hE.out
          rw [cmpL_drop xs ys k (by have := hn.out; omega) (by have := hn'.out; omega), Hx.out, Hy.out, Hq.out, HQ.out, if_pos rfl] at this
          exact this
        · have hq1 : (q == 0) = false := by simpa using hq
          have hq2 : (q != 0) = true := by simpa using hq
          have HQ := Lib.hid hq; clear hq
          go_wp2_with (go_at_call 127; refine (cmpCompare_b _ _ _ _ Hq).mono ?_; rintro e w1 ⟨rfl, rfl⟩)
          go_ret
          refine ⟨?_, rfl⟩
          have := hE.out
          rw [cmpL_drop xs ys k (by have := hn.out; omega) (by have := hn'.out; omega), Hx.out, Hy.out, Hq.out, if_neg HQ.out] at this
          rw [← this]; rfl
      · go_wp2
        go_ret
        refine ⟨?_, rfl⟩
        rw [← hE.out, cmpL_right xs ys k (by have := hn.out; omega) (by have := hn'.out; omega)]; rfl
    · obtain rfl : k = n := by omega
      by_cases hlt' : k < n'
      · go_wp2
        go_ret
        refine ⟨?_, rfl⟩
        rw [← hE.out, cmpL_left xs ys k (by have := hn.out; omega), if_pos (by have := hn'.out; omega)]; rfl
      · go_wp2
        go_ret
        refine ⟨?_, rfl⟩
        rw [← hE.out, cmpL_left xs ys k (by have := hn.out; omega), if_neg (by have := hn'.out; omega)]; rfl
end Go.Proofs.Ytblidpodbpoaeaa
