/- Sets of numbers as bits: setOf, has, size. -/
import Derived.Test.YtigdfcigoejjjaaCi2
import Derived.Laws.BitsAllLaws
namespace Go.Proofs.Ytigdfcigoejjjaa
open Go.RowKit
set_option linter.unusedSimpArgs false
set_option linter.unusedVariables false
set_option maxRecDepth 20000

theorem wrapU {n : Nat} (h : n < 2 ^ 64) : IntKind.u64.wrap (n : Int) = n := by
  show (n : Int) % 18446744073709551616 = n
  omega
theorem wrapU_pow {x : Nat} (h : x < 64) : IntKind.u64.wrap ((2 : Int) ^ x) = ((2 ^ x : Nat) : Int) := by
  have h1 : 2 ^ x < 2 ^ 64 := Nat.pow_lt_pow_right (by decide) h
  have h2 : ((2 : Int) ^ x) = ((2 ^ x : Nat) : Int) := by simp
  rw [h2, wrapU h1]
theorem orU {a b : Nat} (ha : a < 2 ^ 64) (hb : b < 2 ^ 64) : bits .or .u64 (a : Int) (b : Int) = ((a ||| b : Nat) : Int) := u64_or_nat a b ha hb
theorem andU {a b : Nat} (ha : a < 2 ^ 64) (hb : b < 2 ^ 64) : bits .and .u64 (a : Int) (b : Int) = ((a &&& b : Nat) : Int) := u64_and_nat a b ha hb
/-- The numbers of a list as bits. -/
def setN (xs : List Int) : Nat := xs.foldl (fun s i => s ||| 2 ^ i.toNat) 0
theorem setN_snoc (xs : List Int) (x : Int) : setN (xs ++ [x]) = setN xs ||| 2 ^ x.toNat := by simp [setN]
theorem setN_bit {xs : List Int} (h : ∀ x ∈ xs, 0 ≤ x) (i : Nat) : (setN xs).testBit i = decide ((i : Int) ∈ xs) := by
  have key : ∀ (ys : List Int) (s : Nat), (∀ x ∈ ys, 0 ≤ x) → (ys.foldl (fun s i => s ||| 2 ^ i.toNat) s).testBit i = (s.testBit i || decide ((i : Int) ∈ ys)) := fun ys => by
    induction ys with
    | nil => intro s _; simp
    | cons y ys ih =>
      intro s hy
      rw [List.foldl_cons, ih _ (fun x hx => hy x (by simp [hx])), Nat.testBit_or, Nat.testBit_two_pow, Bool.or_assoc]
      congr 1
      rw [Bool.eq_iff_iff]
      have := hy y (by simp)
      simp only [Bool.or_eq_true, decide_eq_true_eq, List.mem_cons]
      constructor
      · rintro (e | e)
        · left; omega
        · exact .inr e
      · rintro (e | e)
        · left; omega
        · exact .inr e
  rw [setN, key xs 0 h]; simp
theorem setN_lt {xs : List Int} {k : Nat} (h : ∀ x ∈ xs, 0 ≤ x ∧ x < k) : setN xs < 2 ^ k := by
  refine Nat.lt_pow_two_of_testBit _ fun i hi => ?_
  rw [setN_bit (fun x hx => (h x hx).1)]
  simp only [decide_eq_false_iff_not]
  intro hm
  have := (h _ hm).2
  omega

set_option maxHeartbeats 1000000 in
theorem setOf_b (A : Option Addr) (c : Nat) (xs : List Int) (w : World) (hl : xs.length ≤ 1048576) (h : Hid (∀ x ∈ xs, 0 ≤ x ∧ x < (63 : Nat))) (hr : RdI w A xs) :
    Calls Try.prog 117 #[.slice A xs.length c] w fun e w' => e = .returned (.int .u64 (setN xs)) ∧ w = w' := by
  have hlt : Hid (∀ k, setN (xs.take k) < 2 ^ 63) := fun k => setN_lt fun x hx => h.out x (List.mem_of_mem_take hx)
  go_enter Try.func117, Try.ntmps117
  go_wp2
  go_loopw [3, 8] (fun s i wr => ∃ k : Nat, k ≤ xs.length ∧ i = .int .i64 k ∧ s = .int .u64 (setN (xs.take k)) ∧ w = wr) (fun _ i _ => xs.length - (intOf i).toNat)
  case atStart => exact ⟨0, Nat.zero_le _, rfl, rfl, rfl⟩
  case round =>
    obtain ⟨k, hk, rfl, rfl, rfl⟩ := hrel
    by_cases hlt2 : k < xs.length
    · obtain ⟨b, off, rfl, hb, hc⟩ := hr.pos (by omega)
      have hck := hc k hlt2
      have hx := h.out (xs.getD k 0) (by simp [List.getD, hlt2])
      have hs := hlt.out k
      clear hc hr
      obtain ⟨x, Hx⟩ : ∃ x : Nat, Hid (xs.getD k 0 = x) := ⟨(xs.getD k 0).toNat, by show _ = _; omega⟩
      rw [Hx.out] at hck hx
      obtain ⟨s, Hs⟩ : ∃ s, Hid (setN (xs.take k) = s) := ⟨_, rfl⟩
      rw [Hs.out] at hs ⊢
      have e1 := wrapU_pow (show x < 64 by omega)
      have e2 := orU (Nat.lt_trans hs (by decide)) (Nat.pow_lt_pow_right (by decide) (show x < 64 by omega) : 2 ^ x < 2 ^ 64)
      have Hn : Hid (setN (xs.take (k + 1)) = s ||| 2 ^ x) := by
        show _ = _
        have hg : xs.getD k 0 = xs[k] := by simp [List.getD, hlt2]
        have h9 := Hx.out
        rw [hg] at h9
        rw [List.take_add_one, List.getElem?_eq_getElem hlt2, ← Hs.out]
        show setN (xs.take k ++ [xs[k]]) = _
        rw [setN_snoc, h9, Int.toNat_natCast]
      go_wp2
      refine ⟨⟨k + 1, by omega, by go_num, ?_, trivial⟩, by simp [intOf]; omega⟩
      rw [Hn.out, ← e2]; simp
    · obtain rfl : k = xs.length := by omega
      rw [List.take_length]
      go_wp2
      go_ret
      exact ⟨rfl, rfl⟩

end Go.Proofs.Ytigdfcigoejjjaa
