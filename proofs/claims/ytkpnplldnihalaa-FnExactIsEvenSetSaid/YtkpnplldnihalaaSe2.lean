/- Ascending lists of numbers below a count: isSet, edgesCode; the reference's l03Set, l03Edges. -/
import Derived.Test.YtkpnplldnihalaaCd
import Derived.Test.YtkpnplldnihalaaGr
namespace Go.Proofs.Ytkpnplldnihalaa
open Go.RowKit
set_option linter.unusedSimpArgs false
set_option linter.unusedVariables false
set_option maxRecDepth 20000

/-- The element at i is in its range, and greater than the one ahead of it. -/
def setAt (xs : List Int) (m : Int) (i : Nat) : Bool := inB (xs.getD i 0) 0 (m - 1) && (decide (i = 0) || decide (xs.getD (i - 1) 0 < xs.getD i 0))
/-- The first k elements are a set. -/
def setTo (xs : List Int) (m : Int) (k : Nat) : Bool := (List.range k).all fun i => setAt xs m i
/-- The list is a set of numbers below m. -/
def setB (xs : List Int) (m : Int) : Bool := setTo xs m xs.length
theorem setTo_next (xs : List Int) (m : Int) (k : Nat) : setTo xs m (k + 1) = (setTo xs m k && setAt xs m k) := by simp [setTo, List.range_succ, List.all_append]
theorem setB_false {xs : List Int} {m : Int} {k : Nat} (hk : k < xs.length) (h : setAt xs m k = false) : setB xs m = false := by
  rw [setB, setTo, List.all_eq_false]
  exact ⟨k, by simpa using hk, by rw [h]; simp⟩
theorem setB_in {xs : List Int} {m : Int} (h : setB xs m = true) : ∀ x ∈ xs, 0 ≤ x ∧ x < m := fun x hx => by
  obtain ⟨i, hi, rfl⟩ := List.getElem_of_mem hx
  rw [setB, setTo, List.all_eq_true] at h
  have h1 := h i (by simpa using hi)
  simp only [setAt, Bool.and_eq_true, inB_true] at h1
  have e : xs.getD i 0 = xs[i] := by simp [List.getD, hi]
  rw [e] at h1
  omega
theorem setB_lt {xs : List Int} {m : Int} (h : setB xs m = true) {i : Nat} (hi : i + 1 < xs.length) : xs.getD i 0 < xs.getD (i + 1) 0 := by
  rw [setB, setTo, List.all_eq_true] at h
  have h1 := h (i + 1) (by simpa using hi)
  simp [setAt] at h1
  simpa [List.getD] using h1.2

set_option maxHeartbeats 2000000 in
theorem isSet_b (A : Option Addr) (c : Nat) (xs : List Int) (m : Nat) (w : World) (q : Bool) (hq : Hid (setB xs m = q)) (hl : xs.length ≤ 1048576) (hm : m ≤ 1048576) (hr : RdI w A xs) :
    Calls Try.prog 104 #[.slice A xs.length c, .int .i64 m] w fun e w' => e = .returned (.bool q) ∧ w = w' := by
  have wm : wrap64 ((m : Int) - 1) = (m : Int) - 1 := wrap64_small (by omega) (by omega)
  go_enter Try.func104, Try.ntmps104
  go_wp2
  go_loopw [9] (fun i wr => ∃ k : Nat, k ≤ xs.length ∧ i = .int .i64 k ∧ Hid (setTo xs m k = true) ∧ w = wr) (fun i _ => xs.length - (intOf i).toNat)
  case atStart => exact ⟨0, Nat.zero_le _, rfl, rfl, rfl⟩
  case round =>
    obtain ⟨k, hk, rfl, Hto, rfl⟩ := hrel
    by_cases hlt : k < xs.length
    · obtain ⟨b, off, rfl, hb, hc⟩ := hr.pos (by omega)
      have hck := hc k hlt
      have Hnx := Lib.hid (setTo_next xs m k)
      have Hfl : Hid (setAt xs m k = false → setB xs m = false) := setB_false hlt
      have Hc := Lib.hid hc
      clear hc hr
      obtain ⟨x, Hx⟩ : ∃ x, Hid (xs.getD k 0 = x) := ⟨_, rfl⟩
      rw [Hx.out] at hck
      obtain ⟨q1, H1⟩ : ∃ q1, Hid (inB x 0 ((m : Int) - 1) = q1) := ⟨_, rfl⟩
      have c1 := fun W => within_b x 0 ((m : Int) - 1) W q1 H1
      have Hat : Hid (setAt xs m k = (q1 && (decide (k = 0) || decide (xs.getD (k - 1) 0 < x)))) := by show _ = _; rw [setAt, Hx.out, H1.out]
      cases q1
      · have Hq : Hid (false = q) := by show _ = _; rw [← hq.out, Hfl.out (by rw [Hat.out]; rfl)]
        go_wp2_with fail
        refine (c1 _).mono ?_
        rintro e w1 ⟨rfl, rfl⟩
        go_wp2
        go_ret
        exact ⟨by rw [← Hq.out]; rfl, rfl⟩
      · rcases Nat.eq_zero_or_pos k with h0 | hpos
        · subst h0
          rw [Nat.add_zero] at hck
          have Hn : Hid (setTo xs m (0 + 1) = true) := by show _ = _; rw [Hnx.out, Hto.out, Hat.out]; rfl
          go_wp2_with fail
          refine (c1 _).mono ?_
          rintro e w1 ⟨rfl, rfl⟩
          go_wp2
          refine ⟨⟨0 + 1, by omega, by go_num, Hn, trivial⟩, by simp [intOf]; omega⟩
        · obtain ⟨j, rfl⟩ : ∃ j, k = j + 1 := ⟨k - 1, by omega⟩
          have hcj := Hc.out j (by omega)
          obtain ⟨y, Hy⟩ : ∃ x, Hid (xs.getD j 0 = x) := ⟨_, rfl⟩
          rw [Hy.out] at hcj
          have Hat2 : Hid (setAt xs m (j + 1) = decide (y < x)) := by
            show _ = _
            rw [Hat.out, show j + 1 - 1 = j from rfl, Hy.out]; simp
          have wj : wrap64 (((j + 1 : Nat) : Int) - 1) = (j : Int) := by rw [wrap64_small (by omega) (by omega)]; omega
          obtain ⟨kk, Hkk⟩ : ∃ kk : Int, Hid (((j + 1 : Nat) : Int) = kk) := ⟨_, rfl⟩
          have g0 : 0 < kk := by have := Hkk.out; omega
          have g1 : kk < (xs.length : Int) := by have := Hkk.out; omega
          have g2 : kk.toNat = j + 1 := by have := Hkk.out; omega
          obtain ⟨ej, ej2, ej3⟩ := idxF j xs.length (by omega)
          rw [Hkk.out] at wj ⊢
          by_cases hxy : x ≤ y
          · have Hq : Hid (false = q) := by show _ = _; rw [← hq.out, Hfl.out (by rw [Hat2.out]; simp; omega)]
            go_wp2_with fail
            refine (c1 _).mono ?_
            rintro e w1 ⟨rfl, rfl⟩
            go_wp2
            go_ret
            exact ⟨by rw [← Hq.out]; rfl, rfl⟩
          · have Hn : Hid (setTo xs m (j + 1 + 1) = true) := by show _ = _; rw [Hnx.out, Hto.out, Hat2.out]; simp; omega
            go_wp2_with fail
            refine (c1 _).mono ?_
            rintro e w1 ⟨rfl, rfl⟩
            go_wp2
            refine ⟨⟨j + 1 + 1, by omega, by (have := Hkk.out); first | go_num | (congr 1; omega), Hn, trivial⟩, by simp [intOf]; (have := Hkk.out); omega⟩
    · obtain rfl : k = xs.length := by omega
      have Hq : Hid (true = q) := by show _ = _; rw [← hq.out, setB, Hto.out]
      go_wp2
      go_ret
      exact ⟨by rw [← Hq.out]; rfl, rfl⟩

set_option maxHeartbeats 2000000 in
theorem l03Set_b (A : Option Addr) (c : Nat) (xs : List Int) (m : Nat) (w : World) (v : Int) (hv : Hid ((if setB xs m = true then (0 : Int) else 2) = v)) (hl : xs.length ≤ 1048576) (hm : m ≤ 1048576) (hr : RdI w A xs) :
    Calls Try.prog 103 #[.slice A xs.length c, .int .i64 m] w fun e w' => e = .returned (.int .i64 v) ∧ Below w.heap.size w w' := by
  go_enter Try.func103, Try.ntmps103
  go_wp2
  go_loopw [5] (fun i wr => ∃ k : Nat, k ≤ xs.length ∧ i = .int .i64 k ∧ Hid (setTo xs m k = true) ∧ Hid (Below w.heap.size w wr)) (fun i _ => xs.length - (intOf i).toNat)
  case atStart => exact ⟨0, Nat.zero_le _, rfl, rfl, Below.refl _ _⟩
  case round =>
    obtain ⟨k, hk, rfl, Hto, Hbel⟩ := hrel
    by_cases hlt : k < xs.length
    · obtain ⟨b, off, rfl, hb, hc⟩ := (hr.below Hbel.out).pos (by omega)
      have hck := hc k hlt
      have Hnx := Lib.hid (setTo_next xs m k)
      have Hfl : Hid (setAt xs m k = false → setB xs m = false) := setB_false hlt
      have Hc := Lib.hid hc
      have Hr := Lib.hid hr
      clear hc hr
      obtain ⟨x, Hx⟩ : ∃ x, Hid (xs.getD k 0 = x) := ⟨_, rfl⟩
      rw [Hx.out] at hck
      obtain ⟨q1, H1⟩ : ∃ q1, Hid (inB x 0 ((m : Int) - 1) = q1) := ⟨_, rfl⟩
      have Hat : Hid (setAt xs m k = (q1 && (decide (k = 0) || decide (xs.getD (k - 1) 0 < x)))) := by show _ = _; rw [setAt, Hx.out, H1.out]
      have e0 : (0 : Int) ≤ k := by omega
      have e1 : (k : Int) < xs.length := by omega
      have e2 : (k : Int).toNat = k := by omega
      obtain ⟨m1, Hm1⟩ : ∃ m1, Hid ((m : Int) - 1 = m1) := ⟨_, rfl⟩
      rw [Hm1.out] at H1
      have wm : IntKind.i64.wrap ((m : Int) - 1) = m1 := by rw [← Hm1.out]; exact IntWalk.i64_in _ (by omega)
      cases q1
      · have Hq : Hid (2 = v) := by show _ = _; rw [← hv.out, Hfl.out (by rw [Hat.out]; rfl)]; rfl
        go_wp2
        go_quiet ((go_at_call 51; refine Calls.quiet_of_same (l01In_same _ _ _ _ false H1)))
        rename_i nq
        clear wm
        go_wp2
        go_ret
        exact ⟨by rw [← Hq.out]; rfl, below_drewN Hbel.out _⟩
      · rcases Nat.eq_zero_or_pos k with h0 | hpos
        · subst h0
          rw [Nat.add_zero] at hck
          have Hn : Hid (setTo xs m (0 + 1) = true) := by show _ = _; rw [Hnx.out, Hto.out, Hat.out]; rfl
          go_wp2
          go_quiet ((go_at_call 51; refine Calls.quiet_of_same (l01In_same _ _ _ _ true H1)))
          rename_i nq
          clear wm
          go_wp2
          refine ⟨⟨0 + 1, by omega, by go_num, Hn, below_drewN Hbel.out _⟩, by simp [intOf]; omega⟩
        · obtain ⟨j, rfl⟩ : ∃ j, k = j + 1 := ⟨k - 1, by omega⟩
          have hcj := Hc.out j (by omega)
          obtain ⟨y, Hy⟩ : ∃ x, Hid (xs.getD j 0 = x) := ⟨_, rfl⟩
          rw [Hy.out] at hcj
          have Hat2 : Hid (setAt xs m (j + 1) = decide (y < x)) := by
            show _ = _
            rw [Hat.out, show j + 1 - 1 = j from rfl, Hy.out]; simp
          obtain ⟨kk, Hkk⟩ : ∃ kk : Int, Hid (((j + 1 : Nat) : Int) = kk) := ⟨_, rfl⟩
          have wj : IntKind.i64.wrap (kk - 1) = (j : Int) := by rw [IntWalk.i64_in _ (by have := Hkk.out; omega)]; have := Hkk.out; omega
          have g0 : decide (kk > 0) = true := by have := Hkk.out; simp; omega
          have g00 : 0 < kk := by have := Hkk.out; omega
          have g1 : 0 ≤ kk := by have := Hkk.out; omega
          have g2 : kk < (xs.length : Int) := by have := Hkk.out; omega
          have g3 : kk.toNat = j + 1 := by have := Hkk.out; omega
          obtain ⟨ej, ej2, ej3⟩ := idxF j xs.length (by omega)
          rw [Hkk.out] at e0 e1 e2 ⊢
          by_cases hxy : x ≤ y
          · have Hq : Hid (2 = v) := by show _ = _; rw [← hv.out, Hfl.out (by rw [Hat2.out]; simp; omega)]; rfl
            have dx : decide (x ≤ y) = true := by simpa using hxy
            go_wp2
            go_quiet ((go_at_call 51; refine Calls.quiet_of_same (l01In_same _ _ _ _ true H1)))
            rename_i nq
            clear wm wj
            go_wp2
            go_ret
            exact ⟨by rw [← Hq.out]; rfl, below_drewN Hbel.out _⟩
          · have Hn : Hid (setTo xs m (j + 1 + 1) = true) := by show _ = _; rw [Hnx.out, Hto.out, Hat2.out]; simp; omega
            have dx : decide (x ≤ y) = false := by simpa using hxy
            go_wp2
            go_quiet ((go_at_call 51; refine Calls.quiet_of_same (l01In_same _ _ _ _ true H1)))
            rename_i nq
            clear wm wj
            go_wp2
            refine ⟨⟨j + 1 + 1, by omega, by (have := Hkk.out); first | go_num | (congr 1; omega), Hn, below_drewN Hbel.out _⟩, by simp [intOf]; (have := Hkk.out); omega⟩
    · obtain rfl : k = xs.length := by omega
      have Hq : Hid (0 = v) := by show _ = _; rw [← hv.out, setB, Hto.out]; rfl
      go_wp2
      go_ret
      exact ⟨by rw [← Hq.out]; rfl, Hbel.out⟩
end Go.Proofs.Ytkpnplldnihalaa
