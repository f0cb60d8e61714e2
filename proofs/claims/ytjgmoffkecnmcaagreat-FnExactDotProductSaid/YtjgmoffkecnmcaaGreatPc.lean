/- How many bits are set: math/bits.OnesCount64. -/
import Derived.Test.YtjgmoffkecnmcaaGreatSe1
import Derived.Lib.BitFns
namespace Go.Proofs.YtjgmoffkecnmcaaGreat
open Go.RowKit
set_option linter.unusedSimpArgs false
set_option linter.unusedVariables false
set_option maxRecDepth 20000

/-- A number by its bytes. -/
def valB : List Nat → Nat
  | [] => 0
  | b :: bs => b + 256 * valB bs
theorem and_split {a c y M : Nat} (ha : a < 256) (hc : c < 256) : (a + 256 * y) &&& (c + 256 * M) = (a &&& c) + 256 * (y &&& M) := by
  have h1 : ((a + 256 * y) &&& (c + 256 * M)) % 2 ^ 8 = a &&& c := by
    rw [Nat.and_mod_two_pow, show (a + 256 * y) % 2 ^ 8 = a by omega, show (c + 256 * M) % 2 ^ 8 = c by omega]
  have h2 : ((a + 256 * y) &&& (c + 256 * M)) / 2 ^ 8 = y &&& M := by
    rw [Nat.and_div_two_pow, show (a + 256 * y) / 2 ^ 8 = y by omega, show (c + 256 * M) / 2 ^ 8 = M by omega]
  omega
def g1 (a : Nat) : Nat := ((a / 2) &&& 85) + (a &&& 85)
def g2 (a : Nat) : Nat := ((a / 4) &&& 51) + (a &&& 51)
def g3 (a : Nat) : Nat := (a / 16 + a) % 16
theorem low1 : ∀ (a : Fin 256) (r : Fin 2), (a.val / 2 + 128 * r.val) &&& 85 = (a.val / 2) &&& 85 := by decide +kernel
theorem low2 : ∀ (a : Fin 256) (r : Fin 4), (a.val / 4 + 64 * r.val) &&& 51 = (a.val / 4) &&& 51 := by decide +kernel
theorem g1_lt : ∀ a : Fin 256, g1 a.val < 256 := by decide +kernel
theorem g2_lt : ∀ a : Fin 256, g2 a.val < 256 := by decide +kernel
theorem g21_small : ∀ a : Fin 256, g2 (g1 a.val) % 16 ≤ 4 ∧ g2 (g1 a.val) / 16 ≤ 4 := by decide +kernel
theorem g321 : ∀ a : Fin 256, g3 (g2 (g1 a.val)) = Lib.popAux 8 a.val := by decide +kernel
theorem pop8_le : ∀ a : Fin 256, Lib.popAux 8 a.val ≤ 8 := by decide +kernel

theorem step1 : ∀ bs : List Nat, (∀ b ∈ bs, b < 256) → ((valB bs / 2) &&& valB (bs.map fun _ => 85)) + (valB bs &&& valB (bs.map fun _ => 85)) = valB (bs.map g1)
  | [], _ => rfl
  | b :: bs, h => by
    have hb := h b (by simp)
    have ih := step1 bs fun x hx => h x (by simp [hx])
    simp only [List.map_cons, valB]
    generalize valB (bs.map fun _ => 85) = M at *
    generalize valB bs = y at *
    have e : (b + 256 * y) / 2 = (b / 2 + 128 * (y % 2)) + 256 * (y / 2) := by omega
    rw [e, and_split (by omega) (by omega), and_split hb (by omega), low1 ⟨b, hb⟩ ⟨y % 2, by omega⟩, ← ih]
    unfold g1; dsimp only; omega
theorem step2 : ∀ bs : List Nat, (∀ b ∈ bs, b < 256) → ((valB bs / 4) &&& valB (bs.map fun _ => 51)) + (valB bs &&& valB (bs.map fun _ => 51)) = valB (bs.map g2)
  | [], _ => rfl
  | b :: bs, h => by
    have hb := h b (by simp)
    have ih := step2 bs fun x hx => h x (by simp [hx])
    simp only [List.map_cons, valB]
    generalize valB (bs.map fun _ => 51) = M at *
    generalize valB bs = y at *
    have e : (b + 256 * y) / 4 = (b / 4 + 64 * (y % 4)) + 256 * (y / 4) := by omega
    rw [e, and_split (by omega) (by omega), and_split hb (by omega), low2 ⟨b, hb⟩ ⟨y % 4, by omega⟩, ← ih]
    unfold g2; dsimp only; omega
theorem low_val {bs : List Nat} (h : ∀ b ∈ bs, b % 16 ≤ 4 ∧ b / 16 ≤ 4) : valB bs % 16 ≤ 4 := by
  cases bs with
  | nil => simp [valB]
  | cons b bs =>
    have := (h b (by simp)).1
    simp only [valB]; omega
theorem step3 : ∀ bs : List Nat, (∀ b ∈ bs, b % 16 ≤ 4 ∧ b / 16 ≤ 4) → ((valB bs / 16 + valB bs) &&& valB (bs.map fun _ => 15)) = valB (bs.map g3)
  | [], _ => rfl
  | b :: bs, h => by
    have hb := h b (by simp)
    have hl := low_val (bs := bs) fun x hx => h x (by simp [hx])
    have ih := step3 bs fun x hx => h x (by simp [hx])
    simp only [List.map_cons, valB]
    generalize valB (bs.map fun _ => 15) = M at *
    generalize valB bs = y at *
    have e : (b + 256 * y) / 16 + (b + 256 * y) = (b / 16 + 16 * (y % 16) + b) + 256 * (y / 16 + y) := by omega
    have e2 : (b / 16 + 16 * (y % 16) + b) &&& 15 = g3 b := by
      have : (b / 16 + 16 * (y % 16) + b) &&& (2 ^ 4 - 1) = (b / 16 + 16 * (y % 16) + b) % 2 ^ 4 := Nat.and_two_pow_sub_one_eq_mod _ 4
      rw [show (15 : Nat) = 2 ^ 4 - 1 from rfl, this]
      unfold g3; omega
    rw [e, and_split (by omega) (by omega), e2, ih]

/-- The bytes of a number. -/
def bytesB : Nat → Nat → List Nat
  | 0, _ => []
  | k + 1, x => x % 256 :: bytesB k (x / 256)
theorem bytes_val : ∀ (k x : Nat), x < 256 ^ k → valB (bytesB k x) = x
  | 0, x, h => by simp at h; subst h; rfl
  | k + 1, x, h => by
    have h2 : x / 256 < 256 ^ k := by rw [Nat.pow_succ] at h; omega
    simp only [bytesB, valB]
    rw [bytes_val k (x / 256) h2]; omega
theorem bytes_lt : ∀ (k x : Nat), ∀ b ∈ bytesB k x, b < 256
  | 0, x, b, h => by simp [bytesB] at h
  | k + 1, x, b, h => by
    simp only [bytesB, List.mem_cons] at h
    rcases h with h | h
    · omega
    · exact bytes_lt k _ b h
theorem pop_split : ∀ (k f a y : Nat), a < 2 ^ k → Lib.popAux (k + f) (a + 2 ^ k * y) = Lib.popAux k a + Lib.popAux f y
  | 0, f, a, y, h => by simp at h; subst h; simp [Lib.popAux]
  | k + 1, f, a, y, h => by
    have e : k + 1 + f = (k + f) + 1 := by omega
    rw [e]
    simp only [Lib.popAux]
    have h2 : a / 2 < 2 ^ k := by rw [Nat.pow_succ] at h; omega
    have e1 : 2 ^ (k + 1) * y = 2 * (2 ^ k * y) := by rw [Nat.pow_succ, Nat.mul_comm (2 ^ k) 2, Nat.mul_assoc]
    rw [e1, show (a + 2 * (2 ^ k * y)) / 2 = a / 2 + 2 ^ k * y by omega, pop_split k f (a / 2) y h2, show (a + 2 * (2 ^ k * y)) % 2 = a % 2 by omega]
    omega
theorem pop_count : ∀ (f x : Nat), Lib.popAux f x = ((List.range f).filter fun i => x.testBit i).length
  | 0, _ => rfl
  | f + 1, x => by
    rw [Lib.popAux, pop_count f (x / 2), List.range_succ_eq_map, List.filter_cons]
    have e : (((List.range f).map Nat.succ).filter fun i => x.testBit i).length = ((List.range f).filter fun i => (x / 2).testBit i).length := by
      rw [List.filter_map, List.length_map]
      congr 2
      funext i
      simp [Nat.testBit_succ]
    by_cases h : x % 2 = 1
    · rw [if_pos (by simp [Nat.testBit_zero, h]), List.length_cons, e]; omega
    · rw [if_neg (by simp [Nat.testBit_zero, h]), e]; omega
theorem val_push {c k : Nat} {bs : List Nat} (hc : c < 256) (h : valB bs < k) : valB (c :: bs) < 256 * k := by
  simp only [valB]; omega
theorem val8_top {c0 c1 c2 c3 c4 c5 c6 c7 k : Nat} (h0 : c0 < 256) (h1 : c1 < 256) (h2 : c2 < 256) (h3 : c3 < 256) (h4 : c4 < 256) (h5 : c5 < 256) (h6 : c6 < 256) (h7 : c7 < k) : valB [c0, c1, c2, c3, c4, c5, c6, c7] < 256 * (256 * (256 * (256 * (256 * (256 * (256 * k)))))) :=
  val_push h0 (val_push h1 (val_push h2 (val_push h3 (val_push h4 (val_push h5 (val_push h6 (by simp only [valB]; omega)))))))
theorem val8_64 {c0 c1 c2 c3 c4 c5 c6 c7 : Nat} (h0 : c0 < 256) (h1 : c1 < 256) (h2 : c2 < 256) (h3 : c3 < 256) (h4 : c4 < 256) (h5 : c5 < 256) (h6 : c6 < 256) (h7 : c7 < 256) : valB [c0, c1, c2, c3, c4, c5, c6, c7] < 2 ^ 64 :=
  Nat.lt_of_lt_of_le (val8_top h0 h1 h2 h3 h4 h5 h6 h7) (by decide)
theorem val8_63 {c0 c1 c2 c3 c4 c5 c6 c7 : Nat} (h0 : c0 % 16 ≤ 4 ∧ c0 / 16 ≤ 4) (h1 : c1 % 16 ≤ 4 ∧ c1 / 16 ≤ 4) (h2 : c2 % 16 ≤ 4 ∧ c2 / 16 ≤ 4) (h3 : c3 % 16 ≤ 4 ∧ c3 / 16 ≤ 4) (h4 : c4 % 16 ≤ 4 ∧ c4 / 16 ≤ 4) (h5 : c5 % 16 ≤ 4 ∧ c5 / 16 ≤ 4) (h6 : c6 % 16 ≤ 4 ∧ c6 / 16 ≤ 4) (h7 : c7 % 16 ≤ 4 ∧ c7 / 16 ≤ 4) : valB [c0, c1, c2, c3, c4, c5, c6, c7] < 2 ^ 63 :=
  have key : ∀ c, c % 16 ≤ 4 ∧ c / 16 ≤ 4 → c < 128 := fun c h => by omega
  Nat.lt_of_lt_of_le (val8_top (Nat.lt_trans (key _ h0) (by decide)) (Nat.lt_trans (key _ h1) (by decide)) (Nat.lt_trans (key _ h2) (by decide)) (Nat.lt_trans (key _ h3) (by decide)) (Nat.lt_trans (key _ h4) (by decide)) (Nat.lt_trans (key _ h5) (by decide)) (Nat.lt_trans (key _ h6) (by decide)) (key _ h7)) (by decide)
theorem val_tail {c : Nat} {bs : List Nat} (hc : c < 256) : valB (c :: bs) / 256 = valB bs := by simp only [valB]; omega
theorem val_add2 (a b x y : Nat) (xs ys : List Nat) (h : valB xs + valB ys = b) : valB (x :: xs) + valB (y :: ys) = (x + y) + 256 * b := by simp only [valB]; omega
theorem val_cons (x : Nat) (xs : List Nat) : valB (x :: xs) = x + 256 * valB xs := rfl
theorem val8_fold {c0 c1 c2 c3 c4 c5 c6 c7 : Nat} (h0 : c0 ≤ 8) (h1 : c1 ≤ 8) (h2 : c2 ≤ 8) (h3 : c3 ≤ 8) (h4 : c4 ≤ 8) (h5 : c5 ≤ 8) (h6 : c6 ≤ 8) (h7 : c7 ≤ 8) :
    valB [c0, c1, c2, c3, c4, c5, c6, c7] < 2 ^ 62 ∧
    (valB [c0, c1, c2, c3, c4, c5, c6, c7] + valB [c0, c1, c2, c3, c4, c5, c6, c7] / 256 + (valB [c0, c1, c2, c3, c4, c5, c6, c7] + valB [c0, c1, c2, c3, c4, c5, c6, c7] / 256) / 65536 + (valB [c0, c1, c2, c3, c4, c5, c6, c7] + valB [c0, c1, c2, c3, c4, c5, c6, c7] / 256 + (valB [c0, c1, c2, c3, c4, c5, c6, c7] + valB [c0, c1, c2, c3, c4, c5, c6, c7] / 256) / 65536) / 4294967296) % 128 = c0 + (c1 + (c2 + (c3 + (c4 + (c5 + (c6 + (c7 + 0))))))) := by
  have e : valB [c0, c1, c2, c3, c4, c5, c6, c7] / 256 = valB [c1, c2, c3, c4, c5, c6, c7] := val_tail (by omega)
  have a1 : valB [c0, c1, c2, c3, c4, c5, c6, c7] + valB [c1, c2, c3, c4, c5, c6, c7] = valB [c0 + c1, c1 + c2, c2 + c3, c3 + c4, c4 + c5, c5 + c6, c6 + c7, c7] := by simp only [valB]; omega
  have e2 : valB [c0 + c1, c1 + c2, c2 + c3, c3 + c4, c4 + c5, c5 + c6, c6 + c7, c7] / 65536 = valB [c2 + c3, c3 + c4, c4 + c5, c5 + c6, c6 + c7, c7] := by
    rw [show (65536 : Nat) = 256 * 256 from rfl, ← Nat.div_div_eq_div_mul, val_tail (by omega), val_tail (by omega)]
  have a2 : valB [c0 + c1, c1 + c2, c2 + c3, c3 + c4, c4 + c5, c5 + c6, c6 + c7, c7] + valB [c2 + c3, c3 + c4, c4 + c5, c5 + c6, c6 + c7, c7] = valB [c0 + c1 + (c2 + c3), c1 + c2 + (c3 + c4), c2 + c3 + (c4 + c5), c3 + c4 + (c5 + c6), c4 + c5 + (c6 + c7), c5 + c6 + c7, c6 + c7, c7] := by simp only [valB]; omega
  have e3 : valB [c0 + c1 + (c2 + c3), c1 + c2 + (c3 + c4), c2 + c3 + (c4 + c5), c3 + c4 + (c5 + c6), c4 + c5 + (c6 + c7), c5 + c6 + c7, c6 + c7, c7] / 4294967296 = valB [c4 + c5 + (c6 + c7), c5 + c6 + c7, c6 + c7, c7] := by
    rw [show (4294967296 : Nat) = 256 * 256 * 256 * 256 from rfl, ← Nat.div_div_eq_div_mul, ← Nat.div_div_eq_div_mul, ← Nat.div_div_eq_div_mul, val_tail (by omega), val_tail (by omega), val_tail (by omega), val_tail (by omega)]
  constructor
  · exact Nat.lt_of_lt_of_le (val8_top (k := 9) (by omega) (by omega) (by omega) (by omega) (by omega) (by omega) (by omega) (by omega)) (by decide)
  · rw [e, a1, e2, a2, e3]
    rw [val_cons, val_cons (c4 + c5 + (c6 + c7))]
    omega
set_option maxHeartbeats 1000000 in
theorem swar (s : Nat) (hs : s < 2 ^ 64) : ∃ x1 x2 x3, ((s / 2) &&& 6148914691236517205) + (s &&& 6148914691236517205) = x1 ∧ ((x1 / 4) &&& 3689348814741910323) + (x1 &&& 3689348814741910323) = x2 ∧ ((x2 / 16 + x2) &&& 1085102592571150095) = x3 ∧
    x1 < 2 ^ 64 ∧ x2 < 2 ^ 63 ∧ x3 < 2 ^ 62 ∧ (x3 + x3 / 256 + (x3 + x3 / 256) / 65536 + (x3 + x3 / 256 + (x3 + x3 / 256) / 65536) / 4294967296) % 128 = Lib.popAux 64 s := by
  have hv := bytes_val 8 s (by simpa using hs)
  have hl := bytes_lt 8 s
  obtain ⟨b0, b1, b2, b3, b4, b5, b6, b7, hb⟩ : ∃ b0 b1 b2 b3 b4 b5 b6 b7, bytesB 8 s = [b0, b1, b2, b3, b4, b5, b6, b7] := by
    simp only [bytesB]
    exact ⟨_, _, _, _, _, _, _, _, rfl⟩
  rw [hb] at hv hl
  have l0 := hl b0 (by simp); have l1 := hl b1 (by simp); have l2 := hl b2 (by simp); have l3 := hl b3 (by simp)
  have l4 := hl b4 (by simp); have l5 := hl b5 (by simp); have l6 := hl b6 (by simp); have l7 := hl b7 (by simp)
  have s1 := step1 [b0, b1, b2, b3, b4, b5, b6, b7] hl
  have s2 := step2 [g1 b0, g1 b1, g1 b2, g1 b3, g1 b4, g1 b5, g1 b6, g1 b7] (by
    intro b hb
    simp only [List.mem_cons, List.not_mem_nil, or_false] at hb
    rcases hb with rfl | rfl | rfl | rfl | rfl | rfl | rfl | rfl
    · exact g1_lt ⟨b0, l0⟩
    · exact g1_lt ⟨b1, l1⟩
    · exact g1_lt ⟨b2, l2⟩
    · exact g1_lt ⟨b3, l3⟩
    · exact g1_lt ⟨b4, l4⟩
    · exact g1_lt ⟨b5, l5⟩
    · exact g1_lt ⟨b6, l6⟩
    · exact g1_lt ⟨b7, l7⟩)
  have s3 := step3 [g2 (g1 b0), g2 (g1 b1), g2 (g1 b2), g2 (g1 b3), g2 (g1 b4), g2 (g1 b5), g2 (g1 b6), g2 (g1 b7)] (by
    intro b hb
    simp only [List.mem_cons, List.not_mem_nil, or_false] at hb
    rcases hb with rfl | rfl | rfl | rfl | rfl | rfl | rfl | rfl
    · exact g21_small ⟨b0, l0⟩
    · exact g21_small ⟨b1, l1⟩
    · exact g21_small ⟨b2, l2⟩
    · exact g21_small ⟨b3, l3⟩
    · exact g21_small ⟨b4, l4⟩
    · exact g21_small ⟨b5, l5⟩
    · exact g21_small ⟨b6, l6⟩
    · exact g21_small ⟨b7, l7⟩)
  have m1 : valB ([b0, b1, b2, b3, b4, b5, b6, b7].map fun _ => 85) = 6148914691236517205 := by simp only [List.map_cons, List.map_nil, valB]
  have m2 : valB ([g1 b0, g1 b1, g1 b2, g1 b3, g1 b4, g1 b5, g1 b6, g1 b7].map fun _ => 51) = 3689348814741910323 := by simp only [List.map_cons, List.map_nil, valB]
  have m3 : valB ([g2 (g1 b0), g2 (g1 b1), g2 (g1 b2), g2 (g1 b3), g2 (g1 b4), g2 (g1 b5), g2 (g1 b6), g2 (g1 b7)].map fun _ => 15) = 1085102592571150095 := by simp only [List.map_cons, List.map_nil, valB]
  rw [m1, hv] at s1
  rw [m2] at s2
  rw [m3] at s3
  have q0 := g321 ⟨b0, l0⟩; have q1 := g321 ⟨b1, l1⟩; have q2 := g321 ⟨b2, l2⟩; have q3 := g321 ⟨b3, l3⟩
  have q4 := g321 ⟨b4, l4⟩; have q5 := g321 ⟨b5, l5⟩; have q6 := g321 ⟨b6, l6⟩; have q7 := g321 ⟨b7, l7⟩
  simp only [List.map_cons, List.map_nil] at s1 s2 s3
  dsimp only at q0 q1 q2 q3 q4 q5 q6 q7
  rw [q0, q1, q2, q3, q4, q5, q6, q7] at s3
  refine ⟨_, _, _, s1, s2, s3, ?_, ?_, ?_, ?_⟩
  · exact val8_64 (g1_lt ⟨b0, l0⟩) (g1_lt ⟨b1, l1⟩) (g1_lt ⟨b2, l2⟩) (g1_lt ⟨b3, l3⟩) (g1_lt ⟨b4, l4⟩) (g1_lt ⟨b5, l5⟩) (g1_lt ⟨b6, l6⟩) (g1_lt ⟨b7, l7⟩)
  · exact val8_63 (g21_small ⟨b0, l0⟩) (g21_small ⟨b1, l1⟩) (g21_small ⟨b2, l2⟩) (g21_small ⟨b3, l3⟩) (g21_small ⟨b4, l4⟩) (g21_small ⟨b5, l5⟩) (g21_small ⟨b6, l6⟩) (g21_small ⟨b7, l7⟩)
  · exact (val8_fold (pop8_le ⟨b0, l0⟩) (pop8_le ⟨b1, l1⟩) (pop8_le ⟨b2, l2⟩) (pop8_le ⟨b3, l3⟩) (pop8_le ⟨b4, l4⟩) (pop8_le ⟨b5, l5⟩) (pop8_le ⟨b6, l6⟩) (pop8_le ⟨b7, l7⟩)).1
  · rw [(val8_fold (pop8_le ⟨b0, l0⟩) (pop8_le ⟨b1, l1⟩) (pop8_le ⟨b2, l2⟩) (pop8_le ⟨b3, l3⟩) (pop8_le ⟨b4, l4⟩) (pop8_le ⟨b5, l5⟩) (pop8_le ⟨b6, l6⟩) (pop8_le ⟨b7, l7⟩)).2]
    have key : ∀ (f b y : Nat), b < 256 → Lib.popAux (8 + f) (b + 256 * y) = Lib.popAux 8 b + Lib.popAux f y := fun f b y h => pop_split 8 f b y (by simpa using h)
    rw [← hv, show (64 : Nat) = 8 + (8 + (8 + (8 + (8 + (8 + (8 + (8 + 0))))))) from rfl]
    simp only [valB]
    rw [key _ _ _ l0, key _ _ _ l1, key _ _ _ l2, key _ _ _ l3, key _ _ _ l4, key _ _ _ l5, key _ _ _ l6, key _ _ _ l7]
    rfl

theorem andI (x : Nat) (h : x < 2 ^ 63) : bits .and .i64 (x : Int) 127 = ((x % 128 : Nat) : Int) := by
  have h1 := bits_mask .i64 63 (by decide) (fun n h0 h1 => by rw [IntKind.wrap_i64]; omega) 7 (by decide) (x : Int) (by omega) (by omega)
  have e : ((2 : Int) ^ 7 - 1) = 127 := by decide
  rw [e] at h1
  rw [h1]; omega
set_option maxHeartbeats 1000000 in
theorem onesCount_b (s : Nat) (w : World) (hs : s < 2 ^ 64) :
    Calls Tryz.prog 75 #[.int .u64 s] w fun e w' => e = .returned (.int .i64 (Lib.popAux 64 s : Nat)) ∧ w = w' := by
  obtain ⟨x1, x2, x3, s1, s2, s3, b1, b2, b3, s4⟩ := swar s hs
  have c0 : ((s : Int) / 2) = ((s / 2 : Nat) : Int) := by omega
  have f1 : bits .and .u64 ((s : Int) / 2) 6148914691236517205 = ((s / 2 &&& 6148914691236517205 : Nat) : Int) := by rw [c0]; exact andU (by omega) (by decide)
  have f2 : bits .and .u64 (s : Int) 6148914691236517205 = ((s &&& 6148914691236517205 : Nat) : Int) := andU hs (by decide)
  obtain ⟨a1, Ha1⟩ : ∃ a, Hid ((s / 2 &&& 6148914691236517205) = a) := ⟨_, rfl⟩
  obtain ⟨a2, Ha2⟩ : ∃ a, Hid ((s &&& 6148914691236517205) = a) := ⟨_, rfl⟩
  rw [Ha1.out] at f1 s1
  rw [Ha2.out] at f2 s1
  have f3 : IntKind.u64.wrap ((a1 : Int) + (a2 : Int)) = (x1 : Int) := by rw [← Int.natCast_add, s1]; exact wrapU b1
  have c1 : ((x1 : Int) / 4) = ((x1 / 4 : Nat) : Int) := by omega
  have f4 : bits .and .u64 ((x1 : Int) / 4) 3689348814741910323 = ((x1 / 4 &&& 3689348814741910323 : Nat) : Int) := by rw [c1]; exact andU (by omega) (by decide)
  have f5 : bits .and .u64 (x1 : Int) 3689348814741910323 = ((x1 &&& 3689348814741910323 : Nat) : Int) := andU b1 (by decide)
  obtain ⟨a3, Ha3⟩ : ∃ a, Hid ((x1 / 4 &&& 3689348814741910323) = a) := ⟨_, rfl⟩
  obtain ⟨a4, Ha4⟩ : ∃ a, Hid ((x1 &&& 3689348814741910323) = a) := ⟨_, rfl⟩
  rw [Ha3.out] at f4 s2
  rw [Ha4.out] at f5 s2
  have f6 : IntKind.u64.wrap ((a3 : Int) + (a4 : Int)) = (x2 : Int) := by rw [← Int.natCast_add, s2]; exact wrapU (by omega)
  obtain ⟨y, Hy⟩ : ∃ a, Hid (x2 / 16 + x2 = a) := ⟨_, rfl⟩
  have f7 : IntKind.u64.wrap ((x2 : Int) / 16 + (x2 : Int)) = (y : Int) := by
    have e : ((x2 : Int) / 16 + (x2 : Int)) = (y : Int) := by have := Hy.out; omega
    rw [e]; exact wrapU (by have := Hy.out; omega)
  rw [Hy.out] at s3
  have f8 : bits .and .u64 (y : Int) 1085102592571150095 = (x3 : Int) := by rw [← s3]; exact andU (by have := Hy.out; omega) (by decide)
  obtain ⟨x4, H4⟩ : ∃ a, Hid (x3 + x3 / 256 = a) := ⟨_, rfl⟩
  have f9 : IntKind.u64.wrap ((x3 : Int) + (x3 : Int) / 256) = (x4 : Int) := by
    have e : ((x3 : Int) + (x3 : Int) / 256) = (x4 : Int) := by have := H4.out; omega
    rw [e]; exact wrapU (by have := H4.out; omega)
  rw [H4.out] at s4
  have b4 : x4 < 2 ^ 62 + 2 ^ 54 := by have := H4.out; omega
  obtain ⟨x5, H5⟩ : ∃ a, Hid (x4 + x4 / 65536 = a) := ⟨_, rfl⟩
  have f10 : IntKind.u64.wrap ((x4 : Int) + (x4 : Int) / 65536) = (x5 : Int) := by
    have e : ((x4 : Int) + (x4 : Int) / 65536) = (x5 : Int) := by have := H5.out; omega
    rw [e]; exact wrapU (by have := H5.out; omega)
  rw [H5.out] at s4
  have b5 : x5 < 2 ^ 62 + 2 ^ 55 := by have := H5.out; omega
  obtain ⟨x6, H6⟩ : ∃ a, Hid (x5 + x5 / 4294967296 = a) := ⟨_, rfl⟩
  have f11 : IntKind.u64.wrap ((x5 : Int) + (x5 : Int) / 4294967296) = (x6 : Int) := by
    have e : ((x5 : Int) + (x5 : Int) / 4294967296) = (x6 : Int) := by have := H6.out; omega
    rw [e]; exact wrapU (by have := H6.out; omega)
  rw [H6.out] at s4
  have b6 : x6 < 2 ^ 63 := by have := H6.out; omega
  have f12 : wrap64 (x6 : Int) = (x6 : Int) := wrap64_small (by omega) (by omega)
  have f13 := andI x6 b6
  rw [s4] at f13
  have S4 := Lib.hid s4
  clear c0 c1 s1 s2 s3 s4 b1 b2 b3 b4 b5 b6 hs
  go_enter Tryz.func75, Tryz.ntmps75
  go_wp2
  go_ret
  exact ⟨rfl, rfl⟩
theorem size_b (s : Nat) (w : World) (hs : s < 2 ^ 64) :
    Calls Tryz.prog 56 #[.int .u64 s] w fun e w' => e = .returned (.int .i64 (Lib.popAux 64 s : Nat)) ∧ w = w' := by
  have co := fun W => onesCount_b s W hs
  clear hs
  go_enter Tryz.func56, Tryz.ntmps56
  go_wp2_with fail
  refine (co _).mono ?_
  rintro e w1 ⟨rfl, rfl⟩
  go_wp2
  go_ret
  exact ⟨rfl, rfl⟩
end Go.Proofs.YtjgmoffkecnmcaaGreat
