/- The reference's l06Joined. No statement of the program is proved here. -/
import Derived.Test.YtjgmoffkecnmcaaGreatTg1
import Derived.Test.YtjgmoffkecnmcaaGreatAt
namespace Go.Proofs.YtjgmoffkecnmcaaGreat
open Go.RowKit
set_option linter.unusedSimpArgs false
set_option linter.unusedVariables false
set_option maxRecDepth 20000

/-- The edges that join a and b. -/
def isJ (a b : Int) (e : Int × Int) : Bool := decide (e.1 = min a b) && decide (e.2 = max a b)
def joinL (es : List (Int × Int)) (a b : Int) (k : Nat) : List Nat := (List.range k).filter fun j => isJ a b (es.getD j (0, 0))
def headJ : List Nat → Int
  | [] => -1
  | j :: _ => j
def joinC (es : List (Int × Int)) (a b : Int) (k : Nat) : Int := (joinL es a b k).length
def joinF (es : List (Int × Int)) (a b : Int) (k : Nat) : Int := headJ (joinL es a b k)
theorem joinL_succ (es : List (Int × Int)) (a b : Int) (k : Nat) : joinL es a b (k + 1) = joinL es a b k ++ if isJ a b (es.getD k (0, 0)) = true then [k] else [] := by
  unfold joinL
  rw [List.range_succ, List.filter_append]
  congr 1
  by_cases h : isJ a b (es.getD k (0, 0)) = true
  · rw [if_pos h]; simp only [List.filter_cons, List.filter_nil, h, if_true]
  · rw [if_neg h]; simp only [List.filter_cons, List.filter_nil, h]; rfl
theorem joinC_succ (es : List (Int × Int)) (a b : Int) (k : Nat) : joinC es a b (k + 1) = if isJ a b (es.getD k (0, 0)) = true then joinC es a b k + 1 else joinC es a b k := by
  unfold joinC
  rw [joinL_succ, List.length_append]
  split <;> simp
theorem joinF_succ (es : List (Int × Int)) (a b : Int) (k : Nat) : joinF es a b (k + 1) = if isJ a b (es.getD k (0, 0)) = true ∧ joinF es a b k < 0 then (k : Int) else joinF es a b k := by
  unfold joinF
  rw [joinL_succ]
  cases joinL es a b k with
  | nil =>
    by_cases h : isJ a b (es.getD k (0, 0)) = true
    · rw [if_pos h, if_pos ⟨h, by decide⟩]; rfl
    · rw [if_neg h, if_neg (fun h2 => h h2.1)]; rfl
  | cons j js =>
    have h0 : ¬ headJ (j :: js) < 0 := by show ¬ ((j : Nat) : Int) < 0; omega
    have h1 : ∀ ys, headJ (j :: js ++ ys) = headJ (j :: js) := fun _ => rfl
    rw [h1, if_neg (fun h2 : _ ∧ _ => h0 h2.2)]
theorem joinC_le (es : List (Int × Int)) (a b : Int) (k : Nat) : 0 ≤ joinC es a b k ∧ joinC es a b k ≤ k := by
  unfold joinC joinL
  have := List.length_filter_le (fun j => isJ a b (es.getD j (0, 0))) (List.range k)
  rw [List.length_range] at this
  omega
theorem joinF_le (es : List (Int × Int)) (a b : Int) (k : Nat) : -1 ≤ joinF es a b k ∧ joinF es a b k < k + 1 := by
  induction k with
  | zero => unfold joinF joinL; simp [headJ]
  | succ k ih => rw [joinF_succ]; split <;> omega
theorem joinC_count (es : List (Int × Int)) (a b : Int) : joinC es a b es.length = (es.filter (isJ a b)).length := by
  have key : ∀ k, k ≤ es.length → joinC es a b k = ((es.take k).filter (isJ a b)).length := by
    intro k
    induction k with
    | zero => intro _; rfl
    | succ k ih =>
      intro hk
      rw [joinC_succ, take_snocE es k (by omega), List.filter_append, List.length_append, ih (by omega)]
      by_cases h : isJ a b (es.getD k (0, 0)) = true
      · rw [if_pos h, List.filter_cons_of_pos h]; simp
      · rw [if_neg h, List.filter_cons_of_neg h]; simp
  have := key es.length (Nat.le_refl _)
  rw [List.take_length] at this
  exact this
theorem isGraphB_lt {n : Int} {es : List (Int × Int)} (h : isGraphB n es = true) {k : Nat} (hk : k < es.length) : (es.getD k (0, 0)).1 < (es.getD k (0, 0)).2 := by
  simp only [isGraphB, Bool.and_eq_true, List.all_eq_true, decide_eq_true_eq] at h
  have e1 : es.getD k (0, 0) = es[k] := by simp [List.getD, hk]
  rw [e1]
  exact h.2.1 _ (List.getElem_mem hk)
/-- Both counts of the edges between two vertices. -/
theorem joinN_C {n : Int} {es : List (Int × Int)} (h : isGraphB n es = true) {a b : Int} (hab : a ≠ b) : (joinN es a b : Int) = joinC es a b es.length := by
  rw [joinC_count, joinN, endsL_map, List.filter_map, List.filter_filter, List.length_map]
  congr 2
  refine List.filter_congr fun e he => ?_
  obtain ⟨k, hk, rfl⟩ := List.mem_iff_getElem.1 he
  have hlt := isGraphB_lt h hk
  have e1 : es[k] = es.getD k (0, 0) := by simp [List.getD, hk]
  rw [e1]
  generalize es.getD k (0, 0) = e at hlt
  obtain ⟨x, y⟩ := e
  dsimp only at hlt
  rw [Bool.eq_iff_iff]
  simp only [isJ, onB, Function.comp, Bool.and_eq_true, Bool.or_eq_true, decide_eq_true_eq]
  omega

set_option maxHeartbeats 4000000 in
theorem l06Joined_b (n : Int) (A : Option Addr) (c : Nat) (es : List (Int × Int)) (a b : Int) (w : World) (hl : es.length ≤ 1048576) (hr : RdE w A es) :
    Calls Tryz.prog 16 #[.agg #[.int .i64 n, .slice A es.length c], .int .i64 a, .int .i64 b] w fun e w' => e = .returned (.tuple #[.int .i64 (joinC es a b es.length), .int .i64 (joinF es a b es.length)]) ∧ Below w.heap.size w w' := by
  have Hre : Hid (∀ W, Below w.heap.size w W → RdE W A es) := fun W hW => hr.below hW
  obtain ⟨L, Hm⟩ : ∃ L, Hid (es.length = L) := ⟨_, rfl⟩
  rw [Hm.out] at hl ⊢
  clear hr
  obtain ⟨lo, Hlo⟩ : ∃ lo, Hid (min a b = lo) := ⟨_, rfl⟩
  obtain ⟨hi, Hhi⟩ : ∃ hi, Hid (max a b = hi) := ⟨_, rfl⟩
  have hmin : (if b < a then b else a) = lo := by rw [← Hlo.out]; split <;> omega
  have hmax : (if a < b then b else a) = hi := by rw [← Hhi.out]; split <;> omega
  have hmin2 : min a b = lo := Hlo.out
  have hmax2 : max a b = hi := Hhi.out
  go_enter Tryz.func16, Tryz.ntmps16
  go_wp2
  go_loopw [8, 9, 10] (fun cc ff ii wr => ∃ k : Nat, k ≤ L ∧ ii = .int .i64 k ∧ cc = .int .i64 (joinC es a b k) ∧ ff = .int .i64 (joinF es a b k) ∧ Hid (Blk wr w.heap.size 28 #[.int .i64 n, .slice A L c]) ∧ Hid (Below w.heap.size w wr)) (fun _ _ i _ => L - (intOf i).toNat)
  case atStart => exact ⟨0, Nat.zero_le _, rfl, rfl, rfl, Blk.new w _ _, by show Below _ _ _; (repeat' (first | (with_reducible exact Below.refl _ _) | (with_reducible assumption) | (with_reducible refine Below.alloc ?_ ?_ _) | (with_reducible refine Below.drew ?_) | (with_reducible refine below_drewN ?_ _) | (with_reducible refine Below.setCell ?_ ?_ _) | (with_reducible refine Below.trans ?_ (Below.mono (by assumption) ?_)) | (first | omega | (simp only [World.size_alloc, World.size_setCell, World.size_drew]; omega) | (simp; omega) | (simp; done))))⟩
  case round =>
    obtain ⟨k, hk, rfl, rfl, rfl, HK, Hbel⟩ := hrel
    have k0 := HK.out.cellAt 1 _ rfl
    by_cases hlt : k < L
    · obtain ⟨bb, off, rfl, hb, hc⟩ := (Hre.out wr Hbel.out).pos (by have := Hm.out; omega)
      obtain ⟨hc0, hc1⟩ := hc k (by have := Hm.out; omega)
      obtain ⟨⟨x, y⟩, Hx⟩ : ∃ x, Hid (es.getD k (0, 0) = x) := ⟨_, rfl⟩
      rw [Hx.out] at hc0 hc1
      dsimp only at hc0 hc1
      clear hc
      obtain ⟨ek, ek2, ek3⟩ := idxF k L hlt
      have Hc := Lib.hid (joinC_succ es a b k)
      have Hf := Lib.hid (joinF_succ es a b k)
      have hcb := joinC_le es a b k
      have Hj : Hid (isJ a b (es.getD k (0, 0)) = ((x == lo) && (y == hi))) := by show _ = _; rw [Hx.out, ← Hlo.out, ← Hhi.out]; rfl
      rw [Hj.out] at Hc Hf
      obtain ⟨C, HC⟩ : ∃ C, Hid (joinC es a b k = C) := ⟨_, rfl⟩
      obtain ⟨F, HF⟩ : ∃ F, Hid (joinF es a b k = F) := ⟨_, rfl⟩
      rw [HC.out] at Hc hcb
      rw [HF.out] at Hf
      simp only [HC.out, HF.out]
      have p1 : wrap64 (C + 1) = C + 1 := wrap64_small (by omega) (by omega)
      clear hcb
      cases q1 : (x == lo)
      · have Hc2 : Hid (C = joinC es a b (k + 1)) := by show _ = _; rw [Hc.out, q1]; rfl
        have Hf2 : Hid (F = joinF es a b (k + 1)) := by show _ = _; rw [Hf.out, q1]; simp
        clear Hc Hf
        go_wp2
        exact ⟨⟨k + 1, by omega, by go_num, by rw [← Hc2.out], by rw [← Hf2.out], HK, Hbel⟩, by simp [intOf]; omega⟩
      · cases q2 : (y == hi)
        · have Hc2 : Hid (C = joinC es a b (k + 1)) := by show _ = _; rw [Hc.out, q1, q2]; rfl
          have Hf2 : Hid (F = joinF es a b (k + 1)) := by show _ = _; rw [Hf.out, q1, q2]; simp
          clear Hc Hf
          go_wp2
          exact ⟨⟨k + 1, by omega, by go_num, by rw [← Hc2.out], by rw [← Hf2.out], HK, Hbel⟩, by simp [intOf]; omega⟩
        · have Hc2 : Hid (C + 1 = joinC es a b (k + 1)) := by show _ = _; rw [Hc.out, q1, q2]; rfl
          by_cases hF : F < 0
          · have g1 : decide (F < 0) = true := by simpa using hF
            have Hf2 : Hid ((k : Int) = joinF es a b (k + 1)) := by show _ = _; rw [Hf.out, q1, q2, if_pos ⟨rfl, hF⟩]
            clear Hc Hf hF
            go_wp2
            exact ⟨⟨k + 1, by omega, by go_num, by rw [← Hc2.out, p1], by rw [← Hf2.out], HK, Hbel⟩, by simp [intOf]; omega⟩
          · have g1 : decide (F < 0) = false := by simpa using hF
            have Hf2 : Hid (F = joinF es a b (k + 1)) := by show _ = _; rw [Hf.out, q1, q2, if_neg fun h => hF h.2]
            clear Hc Hf hF
            go_wp2
            exact ⟨⟨k + 1, by omega, by go_num, by rw [← Hc2.out, p1], by rw [← Hf2.out], HK, Hbel⟩, by simp [intOf]; omega⟩
    · obtain rfl : k = L := by omega
      go_wp2
      go_ret2
      exact ⟨rfl, Hbel.out⟩
end Go.Proofs.YtjgmoffkecnmcaaGreat
