/- Cut edges: both sides joined. No statement of the program is proved here. -/
import Derived.Test.YtjgmoffkecnmcaaGreatCe3
import Derived.Test.YtjgmoffkecnmcaaGreatCe5
namespace Go.Proofs.YtjgmoffkecnmcaaGreat
open Go.RowKit
set_option linter.unusedSimpArgs false
set_option linter.unusedVariables false
set_option maxRecDepth 20000

theorem list_two {xs : List Int} {n u v : Int} (h : xs.length = 2) (hm : ∀ x ∈ xs, 0 ≤ x ∧ x < n ∧ x ≠ u ∧ x ≠ v) :
    ∃ a b : Nat, xs = [(a : Int), (b : Int)] ∧ ((a : Int) < n ∧ (a : Int) ≠ u ∧ (a : Int) ≠ v) ∧ ((b : Int) < n ∧ (b : Int) ≠ u ∧ (b : Int) ≠ v) := by
  match xs, h with
  | [x, y], _ =>
    have hx := hm x (by simp)
    have hy := hm y (by simp)
    refine ⟨x.toNat, y.toNat, ?_, ?_, ?_⟩
    · rw [Int.toNat_of_nonneg hx.1, Int.toNat_of_nonneg hy.1]
    · rw [Int.toNat_of_nonneg hx.1]; exact hx.2
    · rw [Int.toNat_of_nonneg hy.1]; exact hy.2
theorem upI_mem {xs : List Int} {x : Int} : x ∈ upI xs ↔ x ∈ xs := (List.mergeSort_perm _ _ : (upI xs).Perm xs).mem_iff
theorem joinN_comm {n : Int} {es : List (Int × Int)} (hg : isGraphB n es = true) {u v : Int} (huv : u ≠ v) (h : joinN es u v = 1) : joinN es v u = 1 := by
  have h1 := joinN_C hg huv
  have h2 := joinN_C hg (Ne.symm huv)
  rw [joinC_comm] at h2
  omega
theorem cutV_g {n e : Int} {es : List (Int × Int)} (h : isGraphB n es = false) : cutV n es e = (0, [], 1) := by
  unfold cutV; rw [if_pos h]
theorem cutV_e {n e : Int} {es : List (Int × Int)} (h1 : isGraphB n es = true) (h : inB e 0 ((es.length : Int) - 1) = false) : cutV n es e = (0, [], 2) := by
  unfold cutV; rw [if_neg (by rw [h1]; decide), if_pos h]
theorem cutV_s {n : Int} {es : List (Int × Int)} {k u v : Nat} (h1 : isGraphB n es = true) (h2 : inB (k : Int) 0 ((es.length : Int) - 1) = true) (hxy : es.getD k (0, 0) = ((u : Int), (v : Int))) (h : badC es u v) : cutV n es k = (0, [], 5) := by
  unfold cutV
  rw [if_neg (by rw [h1]; decide), if_neg (by rw [h2]; decide), Int.toNat_natCast, hxy]
  exact if_pos h
theorem cutV_y {n : Int} {es : List (Int × Int)} {k u v : Nat} (h1 : isGraphB n es = true) (h2 : inB (k : Int) 0 ((es.length : Int) - 1) = true) (hxy : es.getD k (0, 0) = ((u : Int), (v : Int))) (h : ¬ badC es u v) : cutV n es k = (n - 2, madeE (cutL (setN [(u : Int), (v : Int)]) es (upI (butL es u v)) (upI (butL es v u))), 0) := by
  unfold cutV
  rw [if_neg (by rw [h1]; decide), if_neg (by rw [h2]; decide), Int.toNat_natCast, hxy]
  exact if_neg h
/-- The edge of a number. -/
theorem edge_at {n : Int} {es : List (Int × Int)} (hg : isGraphB n es = true) {e : Int} (he : inB e 0 ((es.length : Int) - 1) = true) :
    ∃ k u v : Nat, e = k ∧ k < es.length ∧ es.getD k (0, 0) = ((u : Int), (v : Int)) ∧ u < v ∧ (v : Int) < n ∧ inB (u : Int) 0 (n - 1) = true ∧ inB (v : Int) 0 (n - 1) = true := by
  have be := inB_true.1 he
  have hn := isGraphB_n hg
  have hk : e.toNat < es.length := by omega
  obtain ⟨x, y, hxy, hx, hy⟩ := isGraphB_in hg e.toNat hk
  have hlt := isGraphB_lt hg hk
  rw [hxy] at hlt
  dsimp only at hlt
  exact ⟨e.toNat, x, y, by omega, hk, hxy, by omega, by omega, inB_true.2 (by omega), inB_true.2 (by omega)⟩

theorem implCut_b (n : Int) (A : Option Addr) (c : Nat) (es : List (Int × Int)) (e : Int) (w : World) (hl : es.length ≤ 1048576) (hr : RdE w A es) (N : Int) (rs : List (Int × Int)) (r : Int) (R0 : Hid ((cutV n es e).1 = N)) (R1 : Hid ((cutV n es e).2.1 = rs)) (R2 : Hid ((cutV n es e).2.2 = r)) :
    Calls Tryz.prog 8 #[.agg #[.int .i64 n, .slice A es.length c], .int .i64 e] w fun e w' => RetG w' w.heap.size e N rs r ∧ Below w.heap.size w w' := by
  by_cases hg : isGraphB n es = true
  · have hn := isGraphB_n hg
    have h30 := isGraphB_len hg
    by_cases he : inB e 0 ((es.length : Int) - 1) = true
    · have hin := isGraphB_in hg
      obtain ⟨k, u, v, rfl, hk, hxy, huv, hvn, hu, hv⟩ := edge_at hg he
      by_cases hs : badC es u v
      · rw [cutV_s hg he hxy hs] at R0 R1 R2
        obtain rfl : 0 = N := R0.out
        obtain rfl : [] = rs := R1.out
        obtain rfl : 5 = r := R2.out
        by_cases hj : joinN es u v = 1
        · have hj2 := joinN_comm hg (show (u : Int) ≠ v by omega) hj
          obtain ⟨x0, x1, hA, hx0, hx1⟩ := list_two (n := n) (u := u) (v := v) (xs := upI (butL es u v)) (by rw [upI_len]; exact butL_two hg hu hj) fun x hx => butL_mem hg hu (upI_mem.1 hx)
          obtain ⟨y0, y1, hB, hy0, hy1⟩ := list_two (n := n) (u := v) (v := u) (xs := upI (butL es v u)) (by rw [upI_len]; exact butL_two hg hv hj2) fun x hx => butL_mem hg hv (upI_mem.1 hx)
          refine implCut_two n A c es k u v w n.toNat (by omega) (by omega) (by omega) hin hr hk hxy (by omega) hg he hj x0 x1 y0 y1 hA hB ?_
          unfold badC at hs
          rw [hA, hB] at hs
          simp only [List.getD_cons_zero, List.getD_cons_succ] at hs
          omega
        · exact implCut_j n A c es k u v w n.toNat (by omega) (by omega) (by omega) hin hr hk hxy (by omega) hg he hj
      · rw [cutV_y hg he hxy hs] at R0 R1 R2
        obtain rfl : n - 2 = N := R0.out
        obtain rfl : madeE (cutL (setN [(u : Int), (v : Int)]) es (upI (butL es u v)) (upI (butL es v u))) = rs := R1.out
        obtain rfl : 0 = r := R2.out
        have hj : joinN es u v = 1 := Classical.byContradiction fun h => hs (.inl h)
        have hj2 := joinN_comm hg (show (u : Int) ≠ v by omega) hj
        obtain ⟨x0, x1, hA, hx0, hx1⟩ := list_two (n := n) (u := u) (v := v) (xs := upI (butL es u v)) (by rw [upI_len]; exact butL_two hg hu hj) fun x hx => butL_mem hg hu (upI_mem.1 hx)
        obtain ⟨y0, y1, hB, hy0, hy1⟩ := list_two (n := n) (u := v) (v := u) (xs := upI (butL es v u)) (by rw [upI_len]; exact butL_two hg hv hj2) fun x hx => butL_mem hg hv (upI_mem.1 hx)
        unfold badC at hs
        rw [hA, hB] at hs
        simp only [List.getD_cons_zero, List.getD_cons_succ] at hs
        rw [hA, hB]
        exact implCut_yes n A c es k u v w n.toNat (by omega) (by omega) (by omega) hin hr hk hxy (by omega) hg he hj x0 x1 y0 y1 hA hB (by omega) (by omega) (by omega)
    · have he' : inB e 0 ((es.length : Int) - 1) = false := by simpa using he
      rw [cutV_e hg he'] at R0 R1 R2
      obtain rfl : 0 = N := R0.out
      obtain rfl : [] = rs := R1.out
      obtain rfl : 2 = r := R2.out
      exact implCut_code n A c es e w hl hr true false hg he' 2 rfl (by decide)
  · have hg' : isGraphB n es = false := by simpa using hg
    rw [cutV_g hg'] at R0 R1 R2
    obtain rfl : 0 = N := R0.out
    obtain rfl : [] = rs := R1.out
    obtain rfl : 1 = r := R2.out
    exact implCut_code n A c es e w hl hr false _ hg' rfl 1 (by simp [gcode]) (by decide)

theorem specCut_b (n : Int) (A : Option Addr) (c : Nat) (es : List (Int × Int)) (e : Int) (w : World) (hl : es.length ≤ 1048576) (hr : RdE w A es) (N : Int) (rs : List (Int × Int)) (r : Int) (R0 : Hid ((cutV n es e).1 = N)) (R1 : Hid ((cutV n es e).2.1 = rs)) (R2 : Hid ((cutV n es e).2.2 = r)) :
    Calls Tryz.prog 6 #[.agg #[.int .i64 n, .slice A es.length c], .int .i64 e] w fun e w' => RetG w' w.heap.size e N rs r ∧ Below w.heap.size w w' := by
  have a1 : [e].all (fun v => inB v 0 ((es.length : Int) - 1)) = inB e 0 ((es.length : Int) - 1) := by simp
  by_cases hg : isGraphB n es = true
  · have hn := isGraphB_n hg
    have h30 := isGraphB_len hg
    by_cases he : inB e 0 ((es.length : Int) - 1) = true
    · have hin := isGraphB_in hg
      obtain ⟨k, u, v, rfl, hk, hxy, huv, hvn, hu, hv⟩ := edge_at hg he
      have ht1 := (ends_three hg hu).1
      have ht2 := (ends_three hg hv).1
      have hJ := joinN_C hg (show (u : Int) ≠ v by omega)
      have key : joinN es u v = 1 → endW es u k = butL es u v ∧ endW es v k = butL es v u := fun hj => by
        have hj2 := joinN_comm hg (show (u : Int) ≠ v by omega) hj
        refine ⟨endW_but hk ?_ ?_ hj, endW_but hk ?_ ?_ hj2⟩
        · rw [hxy]; simp [onB]
        · rw [hxy]; dsimp only; omega
        · rw [hxy]; simp [onB]
        · rw [hxy]; dsimp only; omega
      by_cases hs : badC es u v
      · rw [cutV_s hg he hxy hs] at R0 R1 R2
        obtain rfl : 0 = N := R0.out
        obtain rfl : [] = rs := R1.out
        obtain rfl : 5 = r := R2.out
        by_cases hj : joinN es u v = 1
        · have hj2 := joinN_comm hg (show (u : Int) ≠ v by omega) hj
          obtain ⟨k1, k2⟩ := key hj
          have l1 := butL_two hg hu hj
          have l2 := butL_two hg hv hj2
          obtain ⟨x0, x1, hA, hx0, hx1⟩ := list_two (n := n) (u := u) (v := v) l1 fun x hx => butL_mem hg hu hx
          obtain ⟨y0, y1, hB, hy0, hy1⟩ := list_two (n := n) (u := v) (v := u) l2 fun x hx => butL_mem hg hv hx
          refine specCut_two n A c es k u v w n.toNat (by omega) (by omega) (by omega) hin hr hk hxy (by omega) hg (a1.trans he) ht1 ht2 (by omega) x0 x1 y0 y1 (k1.trans hA) (k2.trans hB) ?_
          unfold badC at hs
          rw [up_eq l1, up_eq l2, hA, hB] at hs
          simp only [List.getD_cons_zero, List.getD_cons_succ] at hs
          omega
        · exact specCut_j n A c es k u v w n.toNat (by omega) (by omega) (by omega) hin hr hk hxy (by omega) hg (a1.trans he) ht1 ht2 (by omega)
      · rw [cutV_y hg he hxy hs] at R0 R1 R2
        obtain rfl : n - 2 = N := R0.out
        obtain rfl : madeE (cutL (setN [(u : Int), (v : Int)]) es (upI (butL es u v)) (upI (butL es v u))) = rs := R1.out
        obtain rfl : 0 = r := R2.out
        have hj : joinN es u v = 1 := Classical.byContradiction fun h => hs (.inl h)
        have hj2 := joinN_comm hg (show (u : Int) ≠ v by omega) hj
        obtain ⟨k1, k2⟩ := key hj
        have l1 := butL_two hg hu hj
        have l2 := butL_two hg hv hj2
        have hm := cut_made (setN [(u : Int), (v : Int)]) es l1 l2
        obtain ⟨x0, x1, hA, hx0, hx1⟩ := list_two (n := n) (u := u) (v := v) l1 fun x hx => butL_mem hg hu hx
        obtain ⟨y0, y1, hB, hy0, hy1⟩ := list_two (n := n) (u := v) (v := u) l2 fun x hx => butL_mem hg hv hx
        unfold badC at hs
        rw [up_eq l1, up_eq l2, hA, hB] at hs
        simp only [List.getD_cons_zero, List.getD_cons_succ] at hs
        rw [← hm, hA, hB]
        obtain ⟨n', rfl⟩ : ∃ x : Nat, n = x := ⟨n.toNat, by omega⟩
        rw [Int.toNat_natCast] at hin
        have hbit : ∀ x : Nat, (x : Int) ≠ u → (x : Int) ≠ v → (setN [(u : Int), (v : Int)]).testBit x = false := fun x h1 h2 => by
          rw [setN_bit (by simp)]
          simp only [decide_eq_false_iff_not, List.mem_cons, List.not_mem_nil, or_false, not_or]
          exact ⟨h1, h2⟩
        exact specCut_yes A c es k u v w n' (by omega) (by omega) hin hr hk hxy (by omega) hg (a1.trans he) ht1 ht2 (by omega) x0 x1 y0 y1 (k1.trans hA) (k2.trans hB) (by omega) (by omega) (by omega) (by omega) (by omega) (hbit x0 hx0.2.1 hx0.2.2) (hbit x1 hx1.2.1 hx1.2.2) (hbit y0 hy0.2.2 hy0.2.1) (hbit y1 hy1.2.2 hy1.2.1)
    · have he' : inB e 0 ((es.length : Int) - 1) = false := by simpa using he
      rw [cutV_e hg he'] at R0 R1 R2
      obtain rfl : 0 = N := R0.out
      obtain rfl : [] = rs := R1.out
      obtain rfl : 2 = r := R2.out
      exact specCut_code n A c es e w hl hr true false hg (a1.trans he') 2 rfl (by decide)
  · have hg' : isGraphB n es = false := by simpa using hg
    rw [cutV_g hg'] at R0 R1 R2
    obtain rfl : 0 = N := R0.out
    obtain rfl : [] = rs := R1.out
    obtain rfl : 1 = r := R2.out
    exact specCut_code n A c es e w hl hr false _ hg' rfl 1 (by simp [gcode]) (by decide)
end Go.Proofs.YtjgmoffkecnmcaaGreat
