/- The star product: both sides joined. No statement of the program is proved here. -/
/- The walk of the law FnExactStarProduct. No statement of the program is proved here. -/
/- The row of the law FnExactStarProduct: the statement itself. -/
import Derived.Test.YtjgmoffkecnmcaaSr3
import Derived.Test.YtjgmoffkecnmcaaSr5
import Derived.Test.YtjgmoffkecnmcaaGl2
import Derived.Test.YtjgmoffkecnmcaaMk3
import Derived.Test.YtjgmoffkecnmcaaGlue
import Derived.Test.YtjgmoffkecnmcaaCi1
import Derived.Deep.CutBlock
import Derived.Deep.DeepCutAuto
import Derived.Test.YtjgmoffkecnmcaaRow0
namespace Go.Proofs.Ytjgmoffkecnmcaa
open Go.RowKit
set_option linter.unusedSimpArgs false
set_option linter.unusedVariables false
set_option maxRecDepth 20000

theorem starV_g {n m v x : Int} {es hs : List (Int × Int)} (h : isGraphB n es = false ∨ isGraphB m hs = false) : starV n es v m hs x = (0, [], 1) := by
  unfold starV
  rw [if_pos]
  rcases h with h | h <;> simp [h]
theorem starV_v {n m v x : Int} {es hs : List (Int × Int)} (h1 : isGraphB n es = true) (h2 : isGraphB m hs = true) (h : inB v 0 (n - 1) = false ∨ inB x 0 (m - 1) = false) : starV n es v m hs x = (0, [], 2) := by
  unfold starV
  rw [if_neg (by simp [h1, h2]), if_pos]
  rcases h with h | h <;> simp [h]
theorem starV_2 {n m v x : Int} {es hs : List (Int × Int)} (h1 : isGraphB n es = true) (h2 : isGraphB m hs = true) (h3 : inB v 0 (n - 1) = true) (h4 : inB x 0 (m - 1) = true) (h : n = 2 ∨ m = 2) : starV n es v m hs x = (0, [], 5) := by
  unfold starV
  rw [if_neg (by simp [h1, h2]), if_neg (by simp [h3, h4]), if_pos h]
theorem starV_y {n m v x : Int} {es hs : List (Int × Int)} (h1 : isGraphB n es = true) (h2 : isGraphB m hs = true) (h3 : inB v 0 (n - 1) = true) (h4 : inB x 0 (m - 1) = true) (h : ¬ (n = 2 ∨ m = 2)) : starV n es v m hs x = limV (n + m - 2) (starL n es v.toNat hs x.toNat 3) := by
  unfold starV
  rw [if_neg (by simp [h1, h2]), if_neg (by simp [h3, h4]), if_neg h]
theorem lenStar (n : Int) (es : List (Int × Int)) (v m : Int) (hs : List (Int × Int)) (x : Int) (h1 : es.length ≤ 1048576) (h2 : hs.length ≤ 1048576) : (starV n es v m hs x).2.1.length ≤ 1048576 := by
  by_cases hg : isGraphB n es = true ∧ isGraphB m hs = true
  · have l1 := isGraphB_len hg.1
    have l2 := isGraphB_len hg.2
    have := limV_len (n + m - 2) (starL n es v.toNat hs x.toNat 3)
    have := starL_len n es v.toNat hs x.toNat 3
    have := starB_len n es v.toNat hs x.toNat
    unfold starV
    split
    · simp
    · split
      · simp
      · split
        · simp
        · omega
  · rw [starV_g (by cases h : isGraphB n es <;> simp_all)]
    simp

theorem implStar_b (n : Int) (A : Option Addr) (c : Nat) (es : List (Int × Int)) (v m : Int) (B : Option Addr) (d : Nat) (hs : List (Int × Int)) (x : Int) (w : World) (hl : es.length ≤ 1048576) (hl2 : hs.length ≤ 1048576) (hr : RdE w A es) (hr2 : RdE w B hs) (N : Int) (rs : List (Int × Int)) (r : Int) (R0 : Hid ((starV n es v m hs x).1 = N)) (R1 : Hid ((starV n es v m hs x).2.1 = rs)) (R2 : Hid ((starV n es v m hs x).2.2 = r)) :
    Calls Try.prog 8 #[.agg #[.int .i64 n, .slice A es.length c], .int .i64 v, .agg #[.int .i64 m, .slice B hs.length d], .int .i64 x] w fun e w' => RetG w' w.heap.size e N rs r ∧ Below w.heap.size w w' := by
  by_cases hg : isGraphB n es = true ∧ isGraphB m hs = true
  · obtain ⟨h1, h2⟩ := hg
    have hn := isGraphB_n h1
    have hm := isGraphB_n h2
    have e1 : wrap64 (n - 1) = n - 1 := wrap64_small (by omega) (by omega)
    have e2 : wrap64 (m - 1) = m - 1 := wrap64_small (by omega) (by omega)
    by_cases hv : inB v 0 (n - 1) = true ∧ inB x 0 (m - 1) = true
    · obtain ⟨h3, h4⟩ := hv
      by_cases h5 : n = 2 ∨ m = 2
      · rw [starV_2 h1 h2 h3 h4 h5] at R0 R1 R2
        obtain rfl : 0 = N := R0.out
        obtain rfl : [] = rs := R1.out
        obtain rfl : 5 = r := R2.out
        refine implStar_err n A c es v m B d hs x w hl hl2 hr hr2 true true true true h1 h2 (by show _ = _; rw [e1]; exact h3) (by show _ = _; rw [e2]; exact h4) 5 ?_
        by_cases h6 : n = 2
        · exact .inr (.inl ⟨rfl, h6, rfl⟩)
        · exact .inr (.inr ⟨rfl, h6, h5.resolve_left h6, rfl⟩)
      · rw [starV_y h1 h2 h3 h4 h5] at R0 R1 R2
        have b1 := inB_true.1 h3
        have b2 := inB_true.1 h4
        have l1 := isGraphB_len h1
        have l2 := isGraphB_len h2
        obtain ⟨v', rfl⟩ : ∃ v' : Nat, v = v' := ⟨v.toNat, by omega⟩
        obtain ⟨x', rfl⟩ : ∃ v' : Nat, x = v' := ⟨x.toNat, by omega⟩
        rw [Int.toNat_natCast, Int.toNat_natCast] at R0 R1 R2
        exact implStar_yes n A c es v' m B d hs x' w (by omega) (by omega) hr hr2 h1 h2 h3 h4 (fun h => h5 (.inl h)) (fun h => h5 (.inr h)) N rs r R0 R1 R2
    · have hv' : inB v 0 (n - 1) = false ∨ inB x 0 (m - 1) = false := by cases h : inB v 0 (n - 1) <;> simp_all
      rw [starV_v h1 h2 hv'] at R0 R1 R2
      obtain rfl : 0 = N := R0.out
      obtain rfl : [] = rs := R1.out
      obtain rfl : 2 = r := R2.out
      refine implStar_err n A c es v m B d hs x w hl hl2 hr hr2 true true (inB v 0 (n - 1)) (inB x 0 (m - 1)) h1 h2 (by show _ = _; rw [e1]) (by show _ = _; rw [e2]) 2 (.inl ⟨?_, by decide⟩)
      rcases hv' with h | h
      · rw [h]; rfl
      · rw [h, Bool.and_false]; rfl
  · have hg' : isGraphB n es = false ∨ isGraphB m hs = false := by cases h : isGraphB n es <;> simp_all
    rw [starV_g hg'] at R0 R1 R2
    obtain rfl : 0 = N := R0.out
    obtain rfl : [] = rs := R1.out
    obtain rfl : 1 = r := R2.out
    refine implStar_err n A c es v m B d hs x w hl hl2 hr hr2 (isGraphB n es) (isGraphB m hs) (inB v 0 (wrap64 (n - 1))) (inB x 0 (wrap64 (m - 1))) rfl rfl rfl rfl 1 (.inl ⟨?_, by decide⟩)
    generalize (inB v 0 (wrap64 (n - 1)) && inB x 0 (wrap64 (m - 1))) = q
    rcases hg' with h | h
    · rw [h]; rfl
    · rw [h]; cases isGraphB n es <;> rfl

theorem specStar_b (n : Int) (A : Option Addr) (c : Nat) (es : List (Int × Int)) (v m : Int) (B : Option Addr) (d : Nat) (hs : List (Int × Int)) (x : Int) (w : World) (hl : es.length ≤ 1048576) (hl2 : hs.length ≤ 1048576) (hr : RdE w A es) (hr2 : RdE w B hs) (N : Int) (rs : List (Int × Int)) (r : Int) (R0 : Hid ((starV n es v m hs x).1 = N)) (R1 : Hid ((starV n es v m hs x).2.1 = rs)) (R2 : Hid ((starV n es v m hs x).2.2 = r)) :
    Calls Try.prog 6 #[.agg #[.int .i64 n, .slice A es.length c], .int .i64 v, .agg #[.int .i64 m, .slice B hs.length d], .int .i64 x] w fun e w' => RetG w' w.heap.size e N rs r ∧ Below w.heap.size w w' := by
  have a1 : [v].all (fun v => inB v 0 (n - 1)) = inB v 0 (n - 1) := by simp
  have a2 : [x].all (fun v => inB v 0 (m - 1)) = inB x 0 (m - 1) := by simp
  by_cases hg : isGraphB n es = true ∧ isGraphB m hs = true
  · obtain ⟨h1, h2⟩ := hg
    have hn := isGraphB_n h1
    have hm := isGraphB_n h2
    by_cases hv : inB v 0 (n - 1) = true ∧ inB x 0 (m - 1) = true
    · obtain ⟨h3, h4⟩ := hv
      rw [h3] at a1
      rw [h4] at a2
      by_cases h5 : n = 2 ∨ m = 2
      · rw [starV_2 h1 h2 h3 h4 h5] at R0 R1 R2
        obtain rfl : 0 = N := R0.out
        obtain rfl : [] = rs := R1.out
        obtain rfl : 5 = r := R2.out
        refine specStar_err n A c es v m B d hs x w hl hl2 hr hr2 true true true true h1 h2 a1 a2 5 ?_
        by_cases h6 : n = 2
        · exact .inr (.inr (.inr (.inr (.inl ⟨rfl, rfl, rfl, rfl, h6, rfl⟩))))
        · exact .inr (.inr (.inr (.inr (.inr (.inl ⟨rfl, rfl, rfl, rfl, h6, h5.resolve_left h6, rfl⟩)))))
      · rw [starV_y h1 h2 h3 h4 h5] at R0 R1 R2
        by_cases h20 : n + m - 2 > 20
        · have hlv : limV (n + m - 2) (starL n es v.toNat hs x.toNat 3) = (0, [], 3) := by unfold limV; rw [if_pos h20]
          rw [hlv] at R0 R1 R2
          obtain rfl : 0 = N := R0.out
          obtain rfl : [] = rs := R1.out
          obtain rfl : 3 = r := R2.out
          exact specStar_err n A c es v m B d hs x w hl hl2 hr hr2 true true true true h1 h2 a1 a2 3 (.inr (.inr (.inr (.inr (.inr (.inr ⟨rfl, rfl, rfl, rfl, fun h => h5 (.inl h), fun h => h5 (.inr h), h20, by omega, rfl⟩))))))
        · have hlv : limV (n + m - 2) (starL n es v.toNat hs x.toNat 3) = (n + m - 2, madeE (starL n es v.toNat hs x.toNat 3), 0) := by unfold limV; rw [if_neg h20]
          rw [hlv] at R0 R1 R2
          obtain rfl : n + m - 2 = N := R0.out
          obtain rfl : madeE (starL n es v.toNat hs x.toNat 3) = rs := R1.out
          obtain rfl : 0 = r := R2.out
          have b1 := inB_true.1 h3
          have b2 := inB_true.1 h4
          have l1 := isGraphB_len h1
          have l2 := isGraphB_len h2
          obtain ⟨v', rfl⟩ : ∃ v' : Nat, v = v' := ⟨v.toNat, by omega⟩
          obtain ⟨x', rfl⟩ : ∃ v' : Nat, x = v' := ⟨x.toNat, by omega⟩
          obtain ⟨n', rfl⟩ : ∃ v' : Nat, n = v' := ⟨n.toNat, by omega⟩
          obtain ⟨m', rfl⟩ : ∃ v' : Nat, m = v' := ⟨m.toNat, by omega⟩
          rw [Int.toNat_natCast, Int.toNat_natCast]
          exact specStar_yes n' A c es v' m' B d hs x' w (by omega) (by omega) hr hr2 h1 h2 a1 a2 (fun h => h5 (.inl (by omega))) (fun h => h5 (.inr (by omega))) (by omega)
    · have hv' : inB v 0 (n - 1) = false ∨ inB x 0 (m - 1) = false := by cases h : inB v 0 (n - 1) <;> simp_all
      rw [starV_v h1 h2 hv'] at R0 R1 R2
      obtain rfl : 0 = N := R0.out
      obtain rfl : [] = rs := R1.out
      obtain rfl : 2 = r := R2.out
      by_cases h3 : inB v 0 (n - 1) = true
      · exact specStar_err n A c es v m B d hs x w hl hl2 hr hr2 true true true false h1 h2 (a1.trans h3) (a2.trans (hv'.resolve_left (by rw [h3]; decide))) 2 (.inr (.inr (.inr (.inl ⟨rfl, rfl, rfl, rfl, rfl⟩))))
      · have h3' : inB v 0 (n - 1) = false := by simpa using h3
        exact specStar_err n A c es v m B d hs x w hl hl2 hr hr2 true true false _ h1 h2 (a1.trans h3') rfl 2 (.inr (.inr (.inl ⟨rfl, rfl, rfl, rfl⟩)))
  · have hg' : isGraphB n es = false ∨ isGraphB m hs = false := by cases h : isGraphB n es <;> simp_all
    rw [starV_g hg'] at R0 R1 R2
    obtain rfl : 0 = N := R0.out
    obtain rfl : [] = rs := R1.out
    obtain rfl : 1 = r := R2.out
    by_cases h1 : isGraphB n es = true
    · exact specStar_err n A c es v m B d hs x w hl hl2 hr hr2 true false _ _ h1 (hg'.resolve_left (by rw [h1]; decide)) rfl rfl 1 (.inr (.inl ⟨rfl, rfl, rfl⟩))
    · have h1' : isGraphB n es = false := by simpa using h1
      exact specStar_err n A c es v m B d hs x w hl hl2 hr hr2 false _ _ _ h1' rfl rfl rfl 1 (.inl ⟨rfl, rfl⟩)
end Go.Proofs.Ytjgmoffkecnmcaa
namespace Go.Proofs.Ytjgmoffkecnmcaa
open Go.RowKit
set_option linter.unusedSimpArgs false
set_option linter.unusedVariables false
set_option maxRecDepth 20000

set_option maxHeartbeats 8000000 in
theorem lawStar_any (n : Int) (A : Option Addr) (c : Nat) (es : List (Int × Int)) (v : Int) (m : Int) (B : Option Addr) (d : Nat) (hs : List (Int × Int)) (x : Int) (w : World) (hl : es.length ≤ 9223372036854775807) (hl2 : hs.length ≤ 9223372036854775807) (hr : RdE w A es) (hr2 : RdE w B hs) :
    Calls Try.prog 3 #[.agg #[.int .i64 n, .slice A es.length c], .int .i64 v, .agg #[.int .i64 m, .slice B hs.length d], .int .i64 x] w fun x w' => x = .returned (.bool true) ∧ Below w.heap.size w w' := by
  obtain ⟨k1, Hk1⟩ : ∃ k : Int, Hid ((if (es.length : Int) ≤ 1048576 then 1048576 - (es.length : Int) else -1) = k) := ⟨_, rfl⟩
  have cs := Lib.hid fun W => szGraph2_any n A es.length c 1048576 W (by omega) hl k1 Hk1
  by_cases h1 : es.length ≤ 1048576
  · have hk1 : ¬ k1 < 0 := by have := Hk1.out; rw [if_pos (by omega)] at this; omega
    have hk1' : k1 = 1048576 - (es.length : Int) := by have := Hk1.out; rw [if_pos (by omega)] at this; omega
    obtain ⟨k2, Hk2⟩ : ∃ k : Int, Hid ((if (hs.length : Int) ≤ k1 then k1 - (hs.length : Int) else -1) = k) := ⟨_, rfl⟩
    have cs2 := Lib.hid fun W => szGraph2_any m B hs.length d k1 W (by omega) hl2 k2 Hk2
    by_cases h2 : (hs.length : Int) ≤ k1
    · have hk2 : ¬ k2 < 0 := by have := Hk2.out; rw [if_pos h2] at this; omega
      have h3 : hs.length ≤ 1048576 := by omega
      obtain ⟨N, R0⟩ : ∃ r, Hid ((starV n es v m hs x).1 = r) := ⟨_, rfl⟩
      obtain ⟨rs, R1⟩ : ∃ r, Hid ((starV n es v m hs x).2.1 = r) := ⟨_, rfl⟩
      obtain ⟨v9, R2⟩ : ∃ r, Hid ((starV n es v m hs x).2.2 = r) := ⟨_, rfl⟩
      obtain ⟨M0, HM0⟩ : ∃ M, Hid (rs.length = M) := ⟨_, rfl⟩
      have hM : M0 ≤ 1048576 := by rw [← HM0.out, ← R1.out]; exact lenStar n es v m hs x h1 h3
      have ct1 := Lib.hid fun W hW => toGraph_any n A c es W h1 (RdE.below (w' := W) hr hW)
      have ct2 := Lib.hid fun W hW => toGraph_any m B d hs W h3 (RdE.below (w' := W) hr2 hW)
      have cp := Lib.hid fun W (g1 g2 : Nat) (h4 : Blk W g1 45 (cE es).toArray) (h5 : Blk W g2 45 (cE hs).toArray) => specStar_b n (some ⟨g1, 0, none⟩) es.length es v m (some ⟨g2, 0, none⟩) hs.length hs x W h1 h3 (blkE_rd h4) (blkE_rd h5) N rs v9 R0 R1 R2
      have ci := Lib.hid fun W (g1 g2 : Nat) (h4 : Blk W g1 45 (cE es).toArray) (h5 : Blk W g2 45 (cE hs).toArray) => implStar_b n (some ⟨g1, 0, none⟩) es.length es v m (some ⟨g2, 0, none⟩) hs.length hs x W h1 h3 (blkE_rd h4) (blkE_rd h5) N rs v9 R0 R1 R2
      have ce1 := fun W g g' (hB : Blk W g 45 (cE es).toArray) (hB' : Blk W g' 45 (cE es).toArray) => eqGraph_any n n (some ⟨g, 0, none⟩) (some ⟨g', 0, none⟩) es.length es.length es es W h1 h1 (blkE_rd hB) (blkE_rd hB')
      have ce2 := fun W g g' (hB : Blk W g 45 (cE hs).toArray) (hB' : Blk W g' 45 (cE hs).toArray) => eqGraph_any m m (some ⟨g, 0, none⟩) (some ⟨g', 0, none⟩) hs.length hs.length hs hs W h3 h3 (blkE_rd hB) (blkE_rd hB')
      simp only [decide_true, Bool.and_self] at ce1 ce2
      have ce1 := Lib.hid ce1
      have ce2 := Lib.hid ce2
      have cq := fun W E E' cb cb' (h1 : RdE W E rs) (h2 : RdE W E' rs) => eqGraph_any N N E E' cb cb' rs rs W (by rw [HM0.out]; omega) (by rw [HM0.out]; omega) h1 h2
      simp only [decide_true, Bool.and_self, HM0.out] at cq
      have cm1 := fun W (g : Nat) (hg : g ≤ W.heap.size) (hB : FrE W g (some ⟨g, 0, none⟩) es) => markG_b n (some ⟨g, 0, none⟩) es.length es.length 1 g es W rfl (by omega) (by omega) hg hB
      have cm2 := fun W (g : Nat) (hg : g ≤ W.heap.size) (hB : FrE W g (some ⟨g, 0, none⟩) hs) => markG_b m (some ⟨g, 0, none⟩) hs.length hs.length (1 + 2 * es.length) g hs W rfl (by omega) (by omega) hg hB
      have ck := fun W E cb (n0 T : Nat) (hn : n0 ≤ W.heap.size) (hB : FrE W n0 E rs) (hT : UpE T E rs) => markG_up N E M0 cb 1 n0 T rs W HM0.out (by omega) (by omega) hn hB hT
      have ch := fun W E cb (hB : RdE W E (iotaE 1 M0)) => heldG_b N E M0 cb 1 W (by omega) (by omega) hB
      obtain ⟨j1, N1⟩ : ∃ k : Int, Hid (((1 + 2 * es.length : Nat) : Int) = k) := ⟨_, rfl⟩
      obtain ⟨j2, N2⟩ : ∃ k : Int, Hid (((1 + 2 * es.length + 2 * hs.length : Nat) : Int) = k) := ⟨_, rfl⟩
      obtain ⟨j3, N3⟩ : ∃ k : Int, Hid (((1 + 2 * M0 : Nat) : Int) = k) := ⟨_, rfl⟩
      have p1 : ¬ j2 < 0 := by have := N2.out; omega
      have p2 : ¬ j3 < 0 := by have := N3.out; omega
      have p3 : (j3 != j3) = false := by simp
      have p4 : (v9 != v9) = false := by simp
      have hnat : ((1 : Nat) : Int) = 1 := rfl
      simp only [N1.out, hnat] at cm1
      simp only [N2.out, N1.out] at cm2
      simp only [N3.out, hnat] at ck ch
      have cq := Lib.hid cq
      have cm1 := Lib.hid cm1
      have cm2 := Lib.hid cm2
      have ck := Lib.hid ck
      have ch := Lib.hid ch
      clear hr hr2 R0 R1 R2 Hk1 Hk2 hk1' h2 h3 h1 hl hl2
      generalize es.length = L at *
      generalize hs.length = M at *
      go_enter Try.func3, Try.ntmps3
      go_wp2_with fail
      refine (cs.out _).mono ?_
      rintro x w1 ⟨rfl, hb1⟩
      have KG1 := Lib.hid ((((Blk.new w _ _).alloc _).below hb1 (by simp; omega)) : Blk w1 w.heap.size 24 #[.int .i64 n, .slice A L c])
      have KH1 := Lib.hid (((Blk.new' (n := w.heap.size + 1) _ (by simp)).below hb1 (by simp)) : Blk w1 (w.heap.size + 1) 24 #[.int .i64 m, .slice B M d])
      have Hb1 : Hid (Below w.heap.size w w1) := by show Below _ _ _; exact Below.trans (b := ((w.alloc (.cells #[.int .i64 n, .slice A L c] 24)).alloc (.cells #[.int .i64 m, .slice B M d] 24))) (by (repeat' (first | (with_reducible exact Below.refl _ _) | (with_reducible assumption) | (with_reducible refine Below.alloc ?_ ?_ _) | (with_reducible refine Below.drew ?_) | (with_reducible refine below_drewN ?_ _) | (with_reducible refine Below.setCell ?_ ?_ _) | (with_reducible refine Below.trans ?_ (Below.mono (by assumption) ?_)) | (first | omega | (simp only [World.size_alloc, World.size_setCell, World.size_drew]; omega) | (simp; omega) | (simp; done))))) (hb1.mono (by simp; omega))
      have k10 := KH1.out.cellAt 0 _ rfl
      have k11 := KH1.out.cellAt 1 _ rfl
      clear hb1
      go_wp2_with fail
      refine (cs2.out _).mono ?_
      rintro x w2 ⟨rfl, hb2⟩
      have KG2 := Lib.hid (KG1.out.below hb2 KG1.out.lt)
      have KH2 := Lib.hid (KH1.out.below hb2 KH1.out.lt)
      have B2 := Hb1.out.trans (hb2.mono Hb1.out.size)
      have s2 := KH2.out.lt
      clear hb2 k10 k11 KG1 KH1 Hb1
      have k00 := KG2.out.cellAt 0 _ rfl
      have k01 := KG2.out.cellAt 1 _ rfl
      have k10 := KH2.out.cellAt 0 _ rfl
      have k11 := KH2.out.cellAt 1 _ rfl
      go_wp2
      go_cut [10, 11] (fun sg sv wx => ∃ g A3 c3, sg = .pointer (some ⟨g, 0, none⟩) ∧ sv = .int .i64 v9 ∧ Hid (Blk wx g 28 #[.int .i64 N, .slice A3 M0 c3]) ∧ Hid (RdE wx A3 rs) ∧ Hid (Below w2.heap.size w2 wx))
      case first =>
        have b0 : Below w2.heap.size w2 w2.drew := Below.drew (Below.refl _ _)
        refine wp_region_noPanic ?_
        refine wp_region_held_drew (S := (fun w' => w'.cell? ⟨w.heap.size, 0, none⟩ = some (.int .i64 n) ∧ w'.cell? ⟨w.heap.size, 1, none⟩ = some (.slice A L c) ∧ w'.cell? ⟨w.heap.size + 1, 0, none⟩ = some (.int .i64 m) ∧ w'.cell? ⟨w.heap.size + 1, 1, none⟩ = some (.slice B M d))) (by kernel_rfl) ?_ (fun hHeld => ?_)
        · (try dsimp only); (first | exact hS | exact ⟨k00, k01, k10, k11⟩ | assumption | (first | go_keep | (obtain ⟨hq, _⟩ := bcell ‹Below _ _ _›; (repeat' apply And.intro) <;> (rw [hq _ _ (by first | assumption | omega | (simp; done) | (simp; omega) | (simp; assumption))] <;> (first | assumption | (simp [*]; done))))))
        refine wpAnyH_take_d (i := 0) (d := some 32) (v := ?v1) rfl rfl (by kernel_rfl) (by kernel_rfl) (by kernel_rfl) (fun _ _ _ h => h) (Or.inl ⟨by kernel_rfl, ?y1⟩) (by assumption) ?_
        case y1 => (intro w' hSw; (try dsimp only at hSw); go_simp; try with_reducible rfl)
        try simp only [Act.put, List.setIfInBounds_toArray, List.set_cons_zero, List.set_cons_succ]
        refine wpAnyH_take_d (i := 2) (d := some 34) (v := ?v2) rfl rfl (by kernel_rfl) (by kernel_rfl) (by kernel_rfl) (fun _ _ _ h => h) (Or.inl ⟨by kernel_rfl, ?y2⟩) (by assumption) ?_
        case y2 => (intro w' hSw; (try dsimp only at hSw); go_simp; try with_reducible rfl)
        try simp only [Act.put, List.setIfInBounds_toArray, List.set_cons_zero, List.set_cons_succ]
        refine wpAnyH_take_d (i := 3) (d := some 35) (v := ?v3) rfl rfl (by kernel_rfl) (by kernel_rfl) (by kernel_rfl) (fun _ _ _ h => h) (Or.inl ⟨by kernel_rfl, ?y3⟩) (by assumption) ?_
        case y3 => (intro w' hSw; (try dsimp only at hSw); go_simp; try with_reducible rfl)
        try simp only [Act.put, List.setIfInBounds_toArray, List.set_cons_zero, List.set_cons_succ]
        refine wpAnyH_take_d (i := 5) (d := some 37) (v := ?v4) rfl rfl (by kernel_rfl) (by kernel_rfl) (by kernel_rfl) (fun _ _ _ h => h) (Or.inl ⟨by kernel_rfl, ?y4⟩) (by assumption) ?_
        case y4 => (intro w' hSw; (try dsimp only at hSw); go_simp; try with_reducible rfl)
        try simp only [Act.put, List.setIfInBounds_toArray, List.set_cons_zero, List.set_cons_succ]
        refine wpAnyH_ready (rs := [1, 10]) (by kernel_rfl) (by simp) ?_
        refine AllReadyH.cons rfl (fun K hK => ?_) (AllReadyH.cons rfl (fun K hK => ?_) (AllReadyH.nil))
        · go_simp
          refine (ct1.out _ (B2.trans (b0.mono B2.size))).mono ?_
          rintro xx v1 ⟨g1, rfl, hg1, hE1, hb1⟩
          have dd1 : Below w2.heap.size w2 v1 := b0.trans (hb1.mono b0.size)
          have hS : v1.cell? ⟨w.heap.size, 0, none⟩ = some (.int .i64 n) ∧ v1.cell? ⟨w.heap.size, 1, none⟩ = some (.slice A L c) ∧ v1.cell? ⟨w.heap.size + 1, 0, none⟩ = some (.int .i64 m) ∧ v1.cell? ⟨w.heap.size + 1, 1, none⟩ = some (.slice B M d) := ⟨((bcell dd1).1 _ _ (by omega)).trans k00, ((bcell dd1).1 _ _ (by omega)).trans k01, ((bcell dd1).1 _ _ s2).trans k10, ((bcell dd1).1 _ _ s2).trans k11⟩
          refine hK.out _ _ ?s5 (fun hHeld5 => ?_)
          case s5 => ((try dsimp only); (first | exact hS | exact ⟨k00, k01, k10, k11⟩ | assumption | (first | go_keep | (obtain ⟨hq, _⟩ := bcell ‹Below _ _ _›; (repeat' apply And.intro) <;> (rw [hq _ _ (by first | assumption | omega | (simp; done) | (simp; omega) | (simp; assumption))] <;> (first | assumption | (simp [*]; done)))))))
          clear hK K hHeld
          have hHeld := hHeld5; clear hHeld5
          try simp only [Act.put, List.setIfInBounds_toArray, List.set_cons_zero, List.set_cons_succ]
          refine wpAnyH_ready (rs := [4, 10]) (by kernel_rfl) (by simp) ?_
          refine AllReadyH.cons rfl (fun K hK => ?_) (AllReadyH.cons rfl (fun K hK => ?_) (AllReadyH.nil))
          · go_simp
            refine (ct2.out _ (B2.trans (dd1.mono B2.size))).mono ?_
            rintro xx v2 ⟨g2, rfl, hg2, hE2, hb2⟩
            have dd2 : Below w2.heap.size w2 v2 := dd1.trans (hb2.mono dd1.size)
            have e21 := hE1.below hb2 hE1.lt
            have hS : v2.cell? ⟨w.heap.size, 0, none⟩ = some (.int .i64 n) ∧ v2.cell? ⟨w.heap.size, 1, none⟩ = some (.slice A L c) ∧ v2.cell? ⟨w.heap.size + 1, 0, none⟩ = some (.int .i64 m) ∧ v2.cell? ⟨w.heap.size + 1, 1, none⟩ = some (.slice B M d) := ⟨((bcell dd2).1 _ _ (by omega)).trans k00, ((bcell dd2).1 _ _ (by omega)).trans k01, ((bcell dd2).1 _ _ s2).trans k10, ((bcell dd2).1 _ _ s2).trans k11⟩
            refine hK.out _ _ ?s6 (fun hHeld6 => ?_)
            case s6 => ((try dsimp only); (first | exact hS | exact ⟨k00, k01, k10, k11⟩ | assumption | (first | go_keep | (obtain ⟨hq, _⟩ := bcell ‹Below _ _ _›; (repeat' apply And.intro) <;> (rw [hq _ _ (by first | assumption | omega | (simp; done) | (simp; omega) | (simp; assumption))] <;> (first | assumption | (simp [*]; done)))))))
            clear hK K hHeld
            have hHeld := hHeld6; clear hHeld6
            try simp only [Act.put, List.setIfInBounds_toArray, List.set_cons_zero, List.set_cons_succ]
            refine wpAnyH_ready (rs := [6, 10]) (by kernel_rfl) (by simp) ?_
            refine AllReadyH.cons rfl (fun K hK => ?_) (AllReadyH.cons rfl (fun K hK => ?_) (AllReadyH.nil))
            · go_simp
              refine (cp.out v2 g1 g2 e21 hE2).mono ?_
              rintro xx v3 ⟨hq, hb3⟩
              obtain ⟨A3, c3, rfl, hF⟩ := hq.open_ HM0.out
              have dd3 : Below w2.heap.size w2 v3 := dd2.trans (hb3.mono dd2.size)
              have hS : v3.cell? ⟨w.heap.size, 0, none⟩ = some (.int .i64 n) ∧ v3.cell? ⟨w.heap.size, 1, none⟩ = some (.slice A L c) ∧ v3.cell? ⟨w.heap.size + 1, 0, none⟩ = some (.int .i64 m) ∧ v3.cell? ⟨w.heap.size + 1, 1, none⟩ = some (.slice B M d) := ⟨((bcell dd3).1 _ _ (by omega)).trans k00, ((bcell dd3).1 _ _ (by omega)).trans k01, ((bcell dd3).1 _ _ s2).trans k10, ((bcell dd3).1 _ _ s2).trans k11⟩
              refine hK.out _ _ ?s7 (fun hHeld7 => ?_)
              case s7 => ((try dsimp only); (first | exact hS | exact ⟨k00, k01, k10, k11⟩ | assumption | (first | go_keep | (obtain ⟨hq, _⟩ := bcell ‹Below _ _ _›; (repeat' apply And.intro) <;> (rw [hq _ _ (by first | assumption | omega | (simp; done) | (simp; omega) | (simp; assumption))] <;> (first | assumption | (simp [*]; done)))))))
              clear hK K hHeld
              have hHeld := hHeld7; clear hHeld7
              try simp only [Act.put, List.setIfInBounds_toArray, List.set_cons_zero, List.set_cons_succ]
              refine wpAnyH_take_d (i := 7) (d := some 31) (v := ?v8) rfl rfl (by kernel_rfl) (by kernel_rfl) (by kernel_rfl) (fun _ _ _ h => h) (Or.inl ⟨by kernel_rfl, ?y8⟩) (by assumption) ?_
              case y8 => (intro w' hSw; (try dsimp only at hSw); go_simp; try with_reducible rfl)
              try simp only [Act.put, List.setIfInBounds_toArray, List.set_cons_zero, List.set_cons_succ]
              refine wpAnyH_take_d (i := 8) (d := some 39) (v := ?v9) rfl rfl (by kernel_rfl) (by kernel_rfl) (by kernel_rfl) (fun _ _ _ h => h) (Or.inl ⟨by kernel_rfl, ?y9⟩) (by assumption) ?_
              case y9 => (intro w' hSw; (try dsimp only at hSw); go_simp; try with_reducible rfl)
              try simp only [Act.put, List.setIfInBounds_toArray, List.set_cons_zero, List.set_cons_succ]
              refine wpAnyH_take_d (i := 9) (d := some 40) (v := ?v10) rfl rfl (by kernel_rfl) (by kernel_rfl) (by kernel_rfl) (fun _ _ _ h => h) (Or.inl ⟨by kernel_rfl, ?y10⟩) (by assumption) ?_
              case y10 => (intro w' hSw; (try dsimp only at hSw); go_simp; try with_reducible rfl)
              try simp only [Act.put, List.setIfInBounds_toArray, List.set_cons_zero, List.set_cons_succ]
              refine wpAnyH_ready (rs := [10]) (by kernel_rfl) (by simp) ?_
              refine AllReadyH.cons rfl (fun K hK => ?_) AllReadyH.nil
              go_simp
              have dd4 : Below w2.heap.size w2 (v3.alloc (.cells #[.int .i64 0, .slice none 0 0] 28)) := dd3.alloc dd3.size _
              have hz4 : Blk (v3.alloc (.cells #[.int .i64 0, .slice none 0 0] 28)) v3.heap.size 28 #[.int .i64 0, .slice none 0 0] := Blk.new v3 _ _
              have e41 := e21.alloc (.cells #[.int .i64 0, .slice none 0 0] 28)
              have e42 := hE2.alloc (.cells #[.int .i64 0, .slice none 0 0] 28)
              have hS : (v3.alloc (.cells #[.int .i64 0, .slice none 0 0] 28)).cell? ⟨w.heap.size, 0, none⟩ = some (.int .i64 n) ∧ (v3.alloc (.cells #[.int .i64 0, .slice none 0 0] 28)).cell? ⟨w.heap.size, 1, none⟩ = some (.slice A L c) ∧ (v3.alloc (.cells #[.int .i64 0, .slice none 0 0] 28)).cell? ⟨w.heap.size + 1, 0, none⟩ = some (.int .i64 m) ∧ (v3.alloc (.cells #[.int .i64 0, .slice none 0 0] 28)).cell? ⟨w.heap.size + 1, 1, none⟩ = some (.slice B M d) := ⟨((bcell dd4).1 _ _ (by omega)).trans k00, ((bcell dd4).1 _ _ (by omega)).trans k01, ((bcell dd4).1 _ _ s2).trans k10, ((bcell dd4).1 _ _ s2).trans k11⟩
              refine hK.out _ _ ?s11 (fun hHeld11 => ?_)
              case s11 => ((try dsimp only); (first | exact hS | exact ⟨k00, k01, k10, k11⟩ | assumption | (first | go_keep | (obtain ⟨hq, _⟩ := bcell ‹Below _ _ _›; (repeat' apply And.intro) <;> (rw [hq _ _ (by first | assumption | omega | (simp; done) | (simp; omega) | (simp; assumption))] <;> (first | assumption | (simp [*]; done)))))))
              clear hK K hHeld
              have hHeld := hHeld11; clear hHeld11
              try simp only [Act.put, List.setIfInBounds_toArray, List.set_cons_zero, List.set_cons_succ]
              have x0 := hz4.cellAt 0 _ rfl; have x1 : ((v3.alloc (.cells #[.int .i64 0, .slice none 0 0] 28)).setCell ⟨v3.heap.size, 0, none⟩ (.int .i64 N)).cell? ⟨v3.heap.size, 1, none⟩ = some (.slice none 0 0) := (sc_other (by simp)).trans (hz4.cellAt 1 _ rfl); have f0 := hz4.frozen 0; have f1 := hz4.frozen 1
              refine wpAnyH_ready (rs := [11]) (by kernel_rfl) (by simp) ?_
              refine AllReadyH.cons rfl (fun K hK => ?_) AllReadyH.nil
              go_simp
              have hZ : Blk (v3.alloc (.cells #[.int .i64 N, .slice A3 M0 c3] 28)) v3.heap.size 28 #[.int .i64 N, .slice A3 M0 c3] := Blk.new v3 _ _
              have cU : Below w2.heap.size w2 (v3.alloc (.cells #[.int .i64 N, .slice A3 M0 c3] 28)) := dd3.alloc dd3.size _
              have hR : RdE (v3.alloc (.cells #[.int .i64 N, .slice A3 M0 c3] 28)) A3 rs := hF.rd.below (Below.alloc (Below.refl _ _) (Nat.le_refl _) _)
              clear hS
              have hS : (v3.alloc (.cells #[.int .i64 N, .slice A3 M0 c3] 28)).cell? ⟨w.heap.size, 0, none⟩ = some (.int .i64 n) ∧ (v3.alloc (.cells #[.int .i64 N, .slice A3 M0 c3] 28)).cell? ⟨w.heap.size, 1, none⟩ = some (.slice A L c) ∧ (v3.alloc (.cells #[.int .i64 N, .slice A3 M0 c3] 28)).cell? ⟨w.heap.size + 1, 0, none⟩ = some (.int .i64 m) ∧ (v3.alloc (.cells #[.int .i64 N, .slice A3 M0 c3] 28)).cell? ⟨w.heap.size + 1, 1, none⟩ = some (.slice B M d) := ⟨((bcell cU).1 _ _ (by omega)).trans k00, ((bcell cU).1 _ _ (by omega)).trans k01, ((bcell cU).1 _ _ s2).trans k10, ((bcell cU).1 _ _ s2).trans k11⟩
              refine hK.out _ _ ?s12 (fun hHeld12 => ?_)
              case s12 => ((try dsimp only); (first | exact hS | exact ⟨k00, k01, k10, k11⟩ | assumption | (first | go_keep | (obtain ⟨hq, _⟩ := bcell ‹Below _ _ _›; (repeat' apply And.intro) <;> (rw [hq _ _ (by first | assumption | omega | (simp; done) | (simp; omega) | (simp; assumption))] <;> (first | assumption | (simp [*]; done)))))))
              clear hK K hHeld
              have hHeld := hHeld12; clear hHeld12
              try simp only [Act.put, List.setIfInBounds_toArray, List.set_cons_zero, List.set_cons_succ]
              have HU : Hid _ := hZ
              refine wpAnyH_take_d (i := 12) (d := some 11) (v := ?v13) rfl rfl (by kernel_rfl) (by kernel_rfl) (by kernel_rfl) (fun _ _ _ h => h) (Or.inl ⟨by kernel_rfl, ?y13⟩) (by assumption) ?_
              case y13 => (intro w' hSw; (try dsimp only at hSw); go_simp; try with_reducible rfl)
              try simp only [Act.put, List.setIfInBounds_toArray, List.set_cons_zero, List.set_cons_succ]
              refine wpAnyH_done (by kernel_rfl) ?_ _
              refine NoPanic.normal ?_
              (try go_wp2_with fail)
              go_meet
              exact ⟨_, A3, c3, rfl, rfl, Lib.hid hZ, Lib.hid hR, Lib.hid cU⟩
            · go_simp
              have dd3 : Below w2.heap.size w2 (v2.alloc (.cells #[.int .i64 0, .slice none 0 0] 28)) := dd2.alloc dd2.size _
              have hz3 : Blk (v2.alloc (.cells #[.int .i64 0, .slice none 0 0] 28)) v2.heap.size 28 #[.int .i64 0, .slice none 0 0] := Blk.new v2 _ _
              have e31 := e21.alloc (.cells #[.int .i64 0, .slice none 0 0] 28)
              have e32 := hE2.alloc (.cells #[.int .i64 0, .slice none 0 0] 28)
              have hS : (v2.alloc (.cells #[.int .i64 0, .slice none 0 0] 28)).cell? ⟨w.heap.size, 0, none⟩ = some (.int .i64 n) ∧ (v2.alloc (.cells #[.int .i64 0, .slice none 0 0] 28)).cell? ⟨w.heap.size, 1, none⟩ = some (.slice A L c) ∧ (v2.alloc (.cells #[.int .i64 0, .slice none 0 0] 28)).cell? ⟨w.heap.size + 1, 0, none⟩ = some (.int .i64 m) ∧ (v2.alloc (.cells #[.int .i64 0, .slice none 0 0] 28)).cell? ⟨w.heap.size + 1, 1, none⟩ = some (.slice B M d) := ⟨((bcell dd3).1 _ _ (by omega)).trans k00, ((bcell dd3).1 _ _ (by omega)).trans k01, ((bcell dd3).1 _ _ s2).trans k10, ((bcell dd3).1 _ _ s2).trans k11⟩
              refine hK.out _ _ ?s14 (fun hHeld14 => ?_)
              case s14 => ((try dsimp only); (first | exact hS | exact ⟨k00, k01, k10, k11⟩ | assumption | (first | go_keep | (obtain ⟨hq, _⟩ := bcell ‹Below _ _ _›; (repeat' apply And.intro) <;> (rw [hq _ _ (by first | assumption | omega | (simp; done) | (simp; omega) | (simp; assumption))] <;> (first | assumption | (simp [*]; done)))))))
              clear hK K hHeld
              have hHeld := hHeld14; clear hHeld14
              try simp only [Act.put, List.setIfInBounds_toArray, List.set_cons_zero, List.set_cons_succ]
              refine wpAnyH_ready (rs := [6]) (by kernel_rfl) (by simp) ?_
              refine AllReadyH.cons rfl (fun K hK => ?_) AllReadyH.nil
              go_simp
              refine (cp.out (v2.alloc (.cells #[.int .i64 0, .slice none 0 0] 28)) g1 g2 e31 e32).mono ?_
              rintro xx v4 ⟨hq, hb4⟩
              obtain ⟨A3, c3, rfl, hF⟩ := hq.open_ HM0.out
              have dd4 : Below w2.heap.size w2 v4 := dd3.trans (hb4.mono dd3.size)
              have hlz := hz3.lt
              have hz4 := hz3.below hb4 hz3.lt
              have hS : v4.cell? ⟨w.heap.size, 0, none⟩ = some (.int .i64 n) ∧ v4.cell? ⟨w.heap.size, 1, none⟩ = some (.slice A L c) ∧ v4.cell? ⟨w.heap.size + 1, 0, none⟩ = some (.int .i64 m) ∧ v4.cell? ⟨w.heap.size + 1, 1, none⟩ = some (.slice B M d) := ⟨((bcell dd4).1 _ _ (by omega)).trans k00, ((bcell dd4).1 _ _ (by omega)).trans k01, ((bcell dd4).1 _ _ s2).trans k10, ((bcell dd4).1 _ _ s2).trans k11⟩
              refine hK.out _ _ ?s15 (fun hHeld15 => ?_)
              case s15 => ((try dsimp only); (first | exact hS | exact ⟨k00, k01, k10, k11⟩ | assumption | (first | go_keep | (obtain ⟨hq, _⟩ := bcell ‹Below _ _ _›; (repeat' apply And.intro) <;> (rw [hq _ _ (by first | assumption | omega | (simp; done) | (simp; omega) | (simp; assumption))] <;> (first | assumption | (simp [*]; done)))))))
              clear hK K hHeld
              have hHeld := hHeld15; clear hHeld15
              try simp only [Act.put, List.setIfInBounds_toArray, List.set_cons_zero, List.set_cons_succ]
              refine wpAnyH_take_d (i := 7) (d := some 31) (v := ?v16) rfl rfl (by kernel_rfl) (by kernel_rfl) (by kernel_rfl) (fun _ _ _ h => h) (Or.inl ⟨by kernel_rfl, ?y16⟩) (by assumption) ?_
              case y16 => (intro w' hSw; (try dsimp only at hSw); go_simp; try with_reducible rfl)
              try simp only [Act.put, List.setIfInBounds_toArray, List.set_cons_zero, List.set_cons_succ]
              refine wpAnyH_take_d (i := 8) (d := some 39) (v := ?v17) rfl rfl (by kernel_rfl) (by kernel_rfl) (by kernel_rfl) (fun _ _ _ h => h) (Or.inl ⟨by kernel_rfl, ?y17⟩) (by assumption) ?_
              case y17 => (intro w' hSw; (try dsimp only at hSw); go_simp; try with_reducible rfl)
              try simp only [Act.put, List.setIfInBounds_toArray, List.set_cons_zero, List.set_cons_succ]
              refine wpAnyH_take_d (i := 9) (d := some 40) (v := ?v18) rfl rfl (by kernel_rfl) (by kernel_rfl) (by kernel_rfl) (fun _ _ _ h => h) (Or.inl ⟨by kernel_rfl, ?y18⟩) (by assumption) ?_
              case y18 => (intro w' hSw; (try dsimp only at hSw); go_simp; try with_reducible rfl)
              try simp only [Act.put, List.setIfInBounds_toArray, List.set_cons_zero, List.set_cons_succ]
              have x0 := hz4.cellAt 0 _ rfl; have x1 : (v4.setCell ⟨v2.heap.size, 0, none⟩ (.int .i64 N)).cell? ⟨v2.heap.size, 1, none⟩ = some (.slice none 0 0) := (sc_other (by simp)).trans (hz4.cellAt 1 _ rfl); have f0 := hz4.frozen 0; have f1 := hz4.frozen 1
              refine wpAnyH_ready (rs := [11]) (by kernel_rfl) (by simp) ?_
              refine AllReadyH.cons rfl (fun K hK => ?_) AllReadyH.nil
              go_simp
              have hZ : Blk ((v4.setCell ⟨v2.heap.size, 0, none⟩ (.int .i64 N)).setCell ⟨v2.heap.size, 1, none⟩ (.slice A3 M0 c3)) v2.heap.size 28 #[.int .i64 N, .slice A3 M0 c3] := (hz4.set_ 0 (.int .i64 N)).set_ 1 (.slice A3 M0 c3)
              have cU : Below w2.heap.size w2 ((v4.setCell ⟨v2.heap.size, 0, none⟩ (.int .i64 N)).setCell ⟨v2.heap.size, 1, none⟩ (.slice A3 M0 c3)) := (dd4.setCell (by show w2.heap.size ≤ v2.heap.size; have := b0.size; have hh := dd4.size; (try simp at this); (try simp at hh); first | exact Nat.le_refl _ | omega | exact dd1.size | exact dd2.size | exact dd3.size) _).setCell (by show w2.heap.size ≤ v2.heap.size; have := b0.size; have hh := dd4.size; (try simp at this); (try simp at hh); first | exact Nat.le_refl _ | omega | exact dd1.size | exact dd2.size | exact dd3.size) _
              have hR : RdE ((v4.setCell ⟨v2.heap.size, 0, none⟩ (.int .i64 N)).setCell ⟨v2.heap.size, 1, none⟩ (.slice A3 M0 c3)) A3 rs := (hF.away (((Only.refl _ _).set 0 _).set 1 _ : Only (some ⟨v2.heap.size, 0, none⟩) v4 _) hlz).rd
              clear hS
              have hS : ((v4.setCell ⟨v2.heap.size, 0, none⟩ (.int .i64 N)).setCell ⟨v2.heap.size, 1, none⟩ (.slice A3 M0 c3)).cell? ⟨w.heap.size, 0, none⟩ = some (.int .i64 n) ∧ ((v4.setCell ⟨v2.heap.size, 0, none⟩ (.int .i64 N)).setCell ⟨v2.heap.size, 1, none⟩ (.slice A3 M0 c3)).cell? ⟨w.heap.size, 1, none⟩ = some (.slice A L c) ∧ ((v4.setCell ⟨v2.heap.size, 0, none⟩ (.int .i64 N)).setCell ⟨v2.heap.size, 1, none⟩ (.slice A3 M0 c3)).cell? ⟨w.heap.size + 1, 0, none⟩ = some (.int .i64 m) ∧ ((v4.setCell ⟨v2.heap.size, 0, none⟩ (.int .i64 N)).setCell ⟨v2.heap.size, 1, none⟩ (.slice A3 M0 c3)).cell? ⟨w.heap.size + 1, 1, none⟩ = some (.slice B M d) := ⟨((bcell cU).1 _ _ (by omega)).trans k00, ((bcell cU).1 _ _ (by omega)).trans k01, ((bcell cU).1 _ _ s2).trans k10, ((bcell cU).1 _ _ s2).trans k11⟩
              refine hK.out _ _ ?s19 (fun hHeld19 => ?_)
              case s19 => ((try dsimp only); (first | exact hS | exact ⟨k00, k01, k10, k11⟩ | assumption | (first | go_keep | (obtain ⟨hq, _⟩ := bcell ‹Below _ _ _›; (repeat' apply And.intro) <;> (rw [hq _ _ (by first | assumption | omega | (simp; done) | (simp; omega) | (simp; assumption))] <;> (first | assumption | (simp [*]; done)))))))
              clear hK K hHeld
              have hHeld := hHeld19; clear hHeld19
              try simp only [Act.put, List.setIfInBounds_toArray, List.set_cons_zero, List.set_cons_succ]
              have HU : Hid _ := hZ
              refine wpAnyH_take_d (i := 12) (d := some 11) (v := ?v20) rfl rfl (by kernel_rfl) (by kernel_rfl) (by kernel_rfl) (fun _ _ _ h => h) (Or.inl ⟨by kernel_rfl, ?y20⟩) (by assumption) ?_
              case y20 => (intro w' hSw; (try dsimp only at hSw); go_simp; try with_reducible rfl)
              try simp only [Act.put, List.setIfInBounds_toArray, List.set_cons_zero, List.set_cons_succ]
              refine wpAnyH_done (by kernel_rfl) ?_ _
              refine NoPanic.normal ?_
              (try go_wp2_with fail)
              go_meet
              exact ⟨_, A3, c3, rfl, rfl, Lib.hid hZ, Lib.hid hR, Lib.hid cU⟩
          · go_simp
            have dd2 : Below w2.heap.size w2 (v1.alloc (.cells #[.int .i64 0, .slice none 0 0] 28)) := dd1.alloc dd1.size _
            have hz2 : Blk (v1.alloc (.cells #[.int .i64 0, .slice none 0 0] 28)) v1.heap.size 28 #[.int .i64 0, .slice none 0 0] := Blk.new v1 _ _
            have e21 := hE1.alloc (.cells #[.int .i64 0, .slice none 0 0] 28)
            have hS : (v1.alloc (.cells #[.int .i64 0, .slice none 0 0] 28)).cell? ⟨w.heap.size, 0, none⟩ = some (.int .i64 n) ∧ (v1.alloc (.cells #[.int .i64 0, .slice none 0 0] 28)).cell? ⟨w.heap.size, 1, none⟩ = some (.slice A L c) ∧ (v1.alloc (.cells #[.int .i64 0, .slice none 0 0] 28)).cell? ⟨w.heap.size + 1, 0, none⟩ = some (.int .i64 m) ∧ (v1.alloc (.cells #[.int .i64 0, .slice none 0 0] 28)).cell? ⟨w.heap.size + 1, 1, none⟩ = some (.slice B M d) := ⟨((bcell dd2).1 _ _ (by omega)).trans k00, ((bcell dd2).1 _ _ (by omega)).trans k01, ((bcell dd2).1 _ _ s2).trans k10, ((bcell dd2).1 _ _ s2).trans k11⟩
            refine hK.out _ _ ?s21 (fun hHeld21 => ?_)
            case s21 => ((try dsimp only); (first | exact hS | exact ⟨k00, k01, k10, k11⟩ | assumption | (first | go_keep | (obtain ⟨hq, _⟩ := bcell ‹Below _ _ _›; (repeat' apply And.intro) <;> (rw [hq _ _ (by first | assumption | omega | (simp; done) | (simp; omega) | (simp; assumption))] <;> (first | assumption | (simp [*]; done)))))))
            clear hK K hHeld
            have hHeld := hHeld21; clear hHeld21
            try simp only [Act.put, List.setIfInBounds_toArray, List.set_cons_zero, List.set_cons_succ]
            refine wpAnyH_ready (rs := [4]) (by kernel_rfl) (by simp) ?_
            refine AllReadyH.cons rfl (fun K hK => ?_) AllReadyH.nil
            go_simp
            refine (ct2.out _ (B2.trans (dd2.mono B2.size))).mono ?_
            rintro xx v3 ⟨g2, rfl, hg2, hE2, hb3⟩
            have dd3 : Below w2.heap.size w2 v3 := dd2.trans (hb3.mono dd2.size)
            have e31 := e21.below hb3 e21.lt
            have hz3 := hz2.below hb3 hz2.lt
            have hS : v3.cell? ⟨w.heap.size, 0, none⟩ = some (.int .i64 n) ∧ v3.cell? ⟨w.heap.size, 1, none⟩ = some (.slice A L c) ∧ v3.cell? ⟨w.heap.size + 1, 0, none⟩ = some (.int .i64 m) ∧ v3.cell? ⟨w.heap.size + 1, 1, none⟩ = some (.slice B M d) := ⟨((bcell dd3).1 _ _ (by omega)).trans k00, ((bcell dd3).1 _ _ (by omega)).trans k01, ((bcell dd3).1 _ _ s2).trans k10, ((bcell dd3).1 _ _ s2).trans k11⟩
            refine hK.out _ _ ?s22 (fun hHeld22 => ?_)
            case s22 => ((try dsimp only); (first | exact hS | exact ⟨k00, k01, k10, k11⟩ | assumption | (first | go_keep | (obtain ⟨hq, _⟩ := bcell ‹Below _ _ _›; (repeat' apply And.intro) <;> (rw [hq _ _ (by first | assumption | omega | (simp; done) | (simp; omega) | (simp; assumption))] <;> (first | assumption | (simp [*]; done)))))))
            clear hK K hHeld
            have hHeld := hHeld22; clear hHeld22
            try simp only [Act.put, List.setIfInBounds_toArray, List.set_cons_zero, List.set_cons_succ]
            refine wpAnyH_ready (rs := [6]) (by kernel_rfl) (by simp) ?_
            refine AllReadyH.cons rfl (fun K hK => ?_) AllReadyH.nil
            go_simp
            refine (cp.out v3 g1 g2 e31 hE2).mono ?_
            rintro xx v4 ⟨hq, hb4⟩
            obtain ⟨A3, c3, rfl, hF⟩ := hq.open_ HM0.out
            have dd4 : Below w2.heap.size w2 v4 := dd3.trans (hb4.mono dd3.size)
            have hlz := hz3.lt
            have hz4 := hz3.below hb4 hz3.lt
            have hS : v4.cell? ⟨w.heap.size, 0, none⟩ = some (.int .i64 n) ∧ v4.cell? ⟨w.heap.size, 1, none⟩ = some (.slice A L c) ∧ v4.cell? ⟨w.heap.size + 1, 0, none⟩ = some (.int .i64 m) ∧ v4.cell? ⟨w.heap.size + 1, 1, none⟩ = some (.slice B M d) := ⟨((bcell dd4).1 _ _ (by omega)).trans k00, ((bcell dd4).1 _ _ (by omega)).trans k01, ((bcell dd4).1 _ _ s2).trans k10, ((bcell dd4).1 _ _ s2).trans k11⟩
            refine hK.out _ _ ?s23 (fun hHeld23 => ?_)
            case s23 => ((try dsimp only); (first | exact hS | exact ⟨k00, k01, k10, k11⟩ | assumption | (first | go_keep | (obtain ⟨hq, _⟩ := bcell ‹Below _ _ _›; (repeat' apply And.intro) <;> (rw [hq _ _ (by first | assumption | omega | (simp; done) | (simp; omega) | (simp; assumption))] <;> (first | assumption | (simp [*]; done)))))))
            clear hK K hHeld
            have hHeld := hHeld23; clear hHeld23
            try simp only [Act.put, List.setIfInBounds_toArray, List.set_cons_zero, List.set_cons_succ]
            refine wpAnyH_take_d (i := 7) (d := some 31) (v := ?v24) rfl rfl (by kernel_rfl) (by kernel_rfl) (by kernel_rfl) (fun _ _ _ h => h) (Or.inl ⟨by kernel_rfl, ?y24⟩) (by assumption) ?_
            case y24 => (intro w' hSw; (try dsimp only at hSw); go_simp; try with_reducible rfl)
            try simp only [Act.put, List.setIfInBounds_toArray, List.set_cons_zero, List.set_cons_succ]
            refine wpAnyH_take_d (i := 8) (d := some 39) (v := ?v25) rfl rfl (by kernel_rfl) (by kernel_rfl) (by kernel_rfl) (fun _ _ _ h => h) (Or.inl ⟨by kernel_rfl, ?y25⟩) (by assumption) ?_
            case y25 => (intro w' hSw; (try dsimp only at hSw); go_simp; try with_reducible rfl)
            try simp only [Act.put, List.setIfInBounds_toArray, List.set_cons_zero, List.set_cons_succ]
            refine wpAnyH_take_d (i := 9) (d := some 40) (v := ?v26) rfl rfl (by kernel_rfl) (by kernel_rfl) (by kernel_rfl) (fun _ _ _ h => h) (Or.inl ⟨by kernel_rfl, ?y26⟩) (by assumption) ?_
            case y26 => (intro w' hSw; (try dsimp only at hSw); go_simp; try with_reducible rfl)
            try simp only [Act.put, List.setIfInBounds_toArray, List.set_cons_zero, List.set_cons_succ]
            have x0 := hz4.cellAt 0 _ rfl; have x1 : (v4.setCell ⟨v1.heap.size, 0, none⟩ (.int .i64 N)).cell? ⟨v1.heap.size, 1, none⟩ = some (.slice none 0 0) := (sc_other (by simp)).trans (hz4.cellAt 1 _ rfl); have f0 := hz4.frozen 0; have f1 := hz4.frozen 1
            refine wpAnyH_ready (rs := [11]) (by kernel_rfl) (by simp) ?_
            refine AllReadyH.cons rfl (fun K hK => ?_) AllReadyH.nil
            go_simp
            have hZ : Blk ((v4.setCell ⟨v1.heap.size, 0, none⟩ (.int .i64 N)).setCell ⟨v1.heap.size, 1, none⟩ (.slice A3 M0 c3)) v1.heap.size 28 #[.int .i64 N, .slice A3 M0 c3] := (hz4.set_ 0 (.int .i64 N)).set_ 1 (.slice A3 M0 c3)
            have cU : Below w2.heap.size w2 ((v4.setCell ⟨v1.heap.size, 0, none⟩ (.int .i64 N)).setCell ⟨v1.heap.size, 1, none⟩ (.slice A3 M0 c3)) := (dd4.setCell (by show w2.heap.size ≤ v1.heap.size; have := b0.size; have hh := dd4.size; (try simp at this); (try simp at hh); first | exact Nat.le_refl _ | omega | exact dd1.size | exact dd2.size | exact dd3.size) _).setCell (by show w2.heap.size ≤ v1.heap.size; have := b0.size; have hh := dd4.size; (try simp at this); (try simp at hh); first | exact Nat.le_refl _ | omega | exact dd1.size | exact dd2.size | exact dd3.size) _
            have hR : RdE ((v4.setCell ⟨v1.heap.size, 0, none⟩ (.int .i64 N)).setCell ⟨v1.heap.size, 1, none⟩ (.slice A3 M0 c3)) A3 rs := (hF.away (((Only.refl _ _).set 0 _).set 1 _ : Only (some ⟨v1.heap.size, 0, none⟩) v4 _) hlz).rd
            clear hS
            have hS : ((v4.setCell ⟨v1.heap.size, 0, none⟩ (.int .i64 N)).setCell ⟨v1.heap.size, 1, none⟩ (.slice A3 M0 c3)).cell? ⟨w.heap.size, 0, none⟩ = some (.int .i64 n) ∧ ((v4.setCell ⟨v1.heap.size, 0, none⟩ (.int .i64 N)).setCell ⟨v1.heap.size, 1, none⟩ (.slice A3 M0 c3)).cell? ⟨w.heap.size, 1, none⟩ = some (.slice A L c) ∧ ((v4.setCell ⟨v1.heap.size, 0, none⟩ (.int .i64 N)).setCell ⟨v1.heap.size, 1, none⟩ (.slice A3 M0 c3)).cell? ⟨w.heap.size + 1, 0, none⟩ = some (.int .i64 m) ∧ ((v4.setCell ⟨v1.heap.size, 0, none⟩ (.int .i64 N)).setCell ⟨v1.heap.size, 1, none⟩ (.slice A3 M0 c3)).cell? ⟨w.heap.size + 1, 1, none⟩ = some (.slice B M d) := ⟨((bcell cU).1 _ _ (by omega)).trans k00, ((bcell cU).1 _ _ (by omega)).trans k01, ((bcell cU).1 _ _ s2).trans k10, ((bcell cU).1 _ _ s2).trans k11⟩
            refine hK.out _ _ ?s27 (fun hHeld27 => ?_)
            case s27 => ((try dsimp only); (first | exact hS | exact ⟨k00, k01, k10, k11⟩ | assumption | (first | go_keep | (obtain ⟨hq, _⟩ := bcell ‹Below _ _ _›; (repeat' apply And.intro) <;> (rw [hq _ _ (by first | assumption | omega | (simp; done) | (simp; omega) | (simp; assumption))] <;> (first | assumption | (simp [*]; done)))))))
            clear hK K hHeld
            have hHeld := hHeld27; clear hHeld27
            try simp only [Act.put, List.setIfInBounds_toArray, List.set_cons_zero, List.set_cons_succ]
            have HU : Hid _ := hZ
            refine wpAnyH_take_d (i := 12) (d := some 11) (v := ?v28) rfl rfl (by kernel_rfl) (by kernel_rfl) (by kernel_rfl) (fun _ _ _ h => h) (Or.inl ⟨by kernel_rfl, ?y28⟩) (by assumption) ?_
            case y28 => (intro w' hSw; (try dsimp only at hSw); go_simp; try with_reducible rfl)
            try simp only [Act.put, List.setIfInBounds_toArray, List.set_cons_zero, List.set_cons_succ]
            refine wpAnyH_done (by kernel_rfl) ?_ _
            refine NoPanic.normal ?_
            (try go_wp2_with fail)
            go_meet
            exact ⟨_, A3, c3, rfl, rfl, Lib.hid hZ, Lib.hid hR, Lib.hid cU⟩
        · go_simp
          have dd1 : Below w2.heap.size w2 (w2.drew.alloc (.cells #[.int .i64 0, .slice none 0 0] 28)) := b0.alloc b0.size _
          have hz1 : Blk (w2.drew.alloc (.cells #[.int .i64 0, .slice none 0 0] 28)) w2.heap.size 28 #[.int .i64 0, .slice none 0 0] := Blk.new w2.drew _ _
          have hS : (w2.drew.alloc (.cells #[.int .i64 0, .slice none 0 0] 28)).cell? ⟨w.heap.size, 0, none⟩ = some (.int .i64 n) ∧ (w2.drew.alloc (.cells #[.int .i64 0, .slice none 0 0] 28)).cell? ⟨w.heap.size, 1, none⟩ = some (.slice A L c) ∧ (w2.drew.alloc (.cells #[.int .i64 0, .slice none 0 0] 28)).cell? ⟨w.heap.size + 1, 0, none⟩ = some (.int .i64 m) ∧ (w2.drew.alloc (.cells #[.int .i64 0, .slice none 0 0] 28)).cell? ⟨w.heap.size + 1, 1, none⟩ = some (.slice B M d) := ⟨((bcell dd1).1 _ _ (by omega)).trans k00, ((bcell dd1).1 _ _ (by omega)).trans k01, ((bcell dd1).1 _ _ s2).trans k10, ((bcell dd1).1 _ _ s2).trans k11⟩
          refine hK.out _ _ ?s29 (fun hHeld29 => ?_)
          case s29 => ((try dsimp only); (first | exact hS | exact ⟨k00, k01, k10, k11⟩ | assumption | (first | go_keep | (obtain ⟨hq, _⟩ := bcell ‹Below _ _ _›; (repeat' apply And.intro) <;> (rw [hq _ _ (by first | assumption | omega | (simp; done) | (simp; omega) | (simp; assumption))] <;> (first | assumption | (simp [*]; done)))))))
          clear hK K hHeld
          have hHeld := hHeld29; clear hHeld29
          try simp only [Act.put, List.setIfInBounds_toArray, List.set_cons_zero, List.set_cons_succ]
          refine wpAnyH_ready (rs := [1]) (by kernel_rfl) (by simp) ?_
          refine AllReadyH.cons rfl (fun K hK => ?_) AllReadyH.nil
          go_simp
          refine (ct1.out _ (B2.trans (dd1.mono B2.size))).mono ?_
          rintro xx v2 ⟨g1, rfl, hg1, hE1, hb2⟩
          have dd2 : Below w2.heap.size w2 v2 := dd1.trans (hb2.mono dd1.size)
          have hz2 := hz1.below hb2 hz1.lt
          have hS : v2.cell? ⟨w.heap.size, 0, none⟩ = some (.int .i64 n) ∧ v2.cell? ⟨w.heap.size, 1, none⟩ = some (.slice A L c) ∧ v2.cell? ⟨w.heap.size + 1, 0, none⟩ = some (.int .i64 m) ∧ v2.cell? ⟨w.heap.size + 1, 1, none⟩ = some (.slice B M d) := ⟨((bcell dd2).1 _ _ (by omega)).trans k00, ((bcell dd2).1 _ _ (by omega)).trans k01, ((bcell dd2).1 _ _ s2).trans k10, ((bcell dd2).1 _ _ s2).trans k11⟩
          refine hK.out _ _ ?s30 (fun hHeld30 => ?_)
          case s30 => ((try dsimp only); (first | exact hS | exact ⟨k00, k01, k10, k11⟩ | assumption | (first | go_keep | (obtain ⟨hq, _⟩ := bcell ‹Below _ _ _›; (repeat' apply And.intro) <;> (rw [hq _ _ (by first | assumption | omega | (simp; done) | (simp; omega) | (simp; assumption))] <;> (first | assumption | (simp [*]; done)))))))
          clear hK K hHeld
          have hHeld := hHeld30; clear hHeld30
          try simp only [Act.put, List.setIfInBounds_toArray, List.set_cons_zero, List.set_cons_succ]
          refine wpAnyH_ready (rs := [4]) (by kernel_rfl) (by simp) ?_
          refine AllReadyH.cons rfl (fun K hK => ?_) AllReadyH.nil
          go_simp
          refine (ct2.out _ (B2.trans (dd2.mono B2.size))).mono ?_
          rintro xx v3 ⟨g2, rfl, hg2, hE2, hb3⟩
          have dd3 : Below w2.heap.size w2 v3 := dd2.trans (hb3.mono dd2.size)
          have e31 := hE1.below hb3 hE1.lt
          have hz3 := hz2.below hb3 hz2.lt
          have hS : v3.cell? ⟨w.heap.size, 0, none⟩ = some (.int .i64 n) ∧ v3.cell? ⟨w.heap.size, 1, none⟩ = some (.slice A L c) ∧ v3.cell? ⟨w.heap.size + 1, 0, none⟩ = some (.int .i64 m) ∧ v3.cell? ⟨w.heap.size + 1, 1, none⟩ = some (.slice B M d) := ⟨((bcell dd3).1 _ _ (by omega)).trans k00, ((bcell dd3).1 _ _ (by omega)).trans k01, ((bcell dd3).1 _ _ s2).trans k10, ((bcell dd3).1 _ _ s2).trans k11⟩
          refine hK.out _ _ ?s31 (fun hHeld31 => ?_)
          case s31 => ((try dsimp only); (first | exact hS | exact ⟨k00, k01, k10, k11⟩ | assumption | (first | go_keep | (obtain ⟨hq, _⟩ := bcell ‹Below _ _ _›; (repeat' apply And.intro) <;> (rw [hq _ _ (by first | assumption | omega | (simp; done) | (simp; omega) | (simp; assumption))] <;> (first | assumption | (simp [*]; done)))))))
          clear hK K hHeld
          have hHeld := hHeld31; clear hHeld31
          try simp only [Act.put, List.setIfInBounds_toArray, List.set_cons_zero, List.set_cons_succ]
          refine wpAnyH_ready (rs := [6]) (by kernel_rfl) (by simp) ?_
          refine AllReadyH.cons rfl (fun K hK => ?_) AllReadyH.nil
          go_simp
          refine (cp.out v3 g1 g2 e31 hE2).mono ?_
          rintro xx v4 ⟨hq, hb4⟩
          obtain ⟨A3, c3, rfl, hF⟩ := hq.open_ HM0.out
          have dd4 : Below w2.heap.size w2 v4 := dd3.trans (hb4.mono dd3.size)
          have hlz := hz3.lt
          have hz4 := hz3.below hb4 hz3.lt
          have hS : v4.cell? ⟨w.heap.size, 0, none⟩ = some (.int .i64 n) ∧ v4.cell? ⟨w.heap.size, 1, none⟩ = some (.slice A L c) ∧ v4.cell? ⟨w.heap.size + 1, 0, none⟩ = some (.int .i64 m) ∧ v4.cell? ⟨w.heap.size + 1, 1, none⟩ = some (.slice B M d) := ⟨((bcell dd4).1 _ _ (by omega)).trans k00, ((bcell dd4).1 _ _ (by omega)).trans k01, ((bcell dd4).1 _ _ s2).trans k10, ((bcell dd4).1 _ _ s2).trans k11⟩
          refine hK.out _ _ ?s32 (fun hHeld32 => ?_)
          case s32 => ((try dsimp only); (first | exact hS | exact ⟨k00, k01, k10, k11⟩ | assumption | (first | go_keep | (obtain ⟨hq, _⟩ := bcell ‹Below _ _ _›; (repeat' apply And.intro) <;> (rw [hq _ _ (by first | assumption | omega | (simp; done) | (simp; omega) | (simp; assumption))] <;> (first | assumption | (simp [*]; done)))))))
          clear hK K hHeld
          have hHeld := hHeld32; clear hHeld32
          try simp only [Act.put, List.setIfInBounds_toArray, List.set_cons_zero, List.set_cons_succ]
          refine wpAnyH_take_d (i := 7) (d := some 31) (v := ?v33) rfl rfl (by kernel_rfl) (by kernel_rfl) (by kernel_rfl) (fun _ _ _ h => h) (Or.inl ⟨by kernel_rfl, ?y33⟩) (by assumption) ?_
          case y33 => (intro w' hSw; (try dsimp only at hSw); go_simp; try with_reducible rfl)
          try simp only [Act.put, List.setIfInBounds_toArray, List.set_cons_zero, List.set_cons_succ]
          refine wpAnyH_take_d (i := 8) (d := some 39) (v := ?v34) rfl rfl (by kernel_rfl) (by kernel_rfl) (by kernel_rfl) (fun _ _ _ h => h) (Or.inl ⟨by kernel_rfl, ?y34⟩) (by assumption) ?_
          case y34 => (intro w' hSw; (try dsimp only at hSw); go_simp; try with_reducible rfl)
          try simp only [Act.put, List.setIfInBounds_toArray, List.set_cons_zero, List.set_cons_succ]
          refine wpAnyH_take_d (i := 9) (d := some 40) (v := ?v35) rfl rfl (by kernel_rfl) (by kernel_rfl) (by kernel_rfl) (fun _ _ _ h => h) (Or.inl ⟨by kernel_rfl, ?y35⟩) (by assumption) ?_
          case y35 => (intro w' hSw; (try dsimp only at hSw); go_simp; try with_reducible rfl)
          try simp only [Act.put, List.setIfInBounds_toArray, List.set_cons_zero, List.set_cons_succ]
          have x0 := hz4.cellAt 0 _ rfl; have x1 : (v4.setCell ⟨w2.heap.size, 0, none⟩ (.int .i64 N)).cell? ⟨w2.heap.size, 1, none⟩ = some (.slice none 0 0) := (sc_other (by simp)).trans (hz4.cellAt 1 _ rfl); have f0 := hz4.frozen 0; have f1 := hz4.frozen 1
          refine wpAnyH_ready (rs := [11]) (by kernel_rfl) (by simp) ?_
          refine AllReadyH.cons rfl (fun K hK => ?_) AllReadyH.nil
          go_simp
          have hZ : Blk ((v4.setCell ⟨w2.heap.size, 0, none⟩ (.int .i64 N)).setCell ⟨w2.heap.size, 1, none⟩ (.slice A3 M0 c3)) w2.heap.size 28 #[.int .i64 N, .slice A3 M0 c3] := (hz4.set_ 0 (.int .i64 N)).set_ 1 (.slice A3 M0 c3)
          have cU : Below w2.heap.size w2 ((v4.setCell ⟨w2.heap.size, 0, none⟩ (.int .i64 N)).setCell ⟨w2.heap.size, 1, none⟩ (.slice A3 M0 c3)) := (dd4.setCell (by show w2.heap.size ≤ w2.heap.size; have := b0.size; have hh := dd4.size; (try simp at this); (try simp at hh); first | exact Nat.le_refl _ | omega | exact dd1.size | exact dd2.size | exact dd3.size) _).setCell (by show w2.heap.size ≤ w2.heap.size; have := b0.size; have hh := dd4.size; (try simp at this); (try simp at hh); first | exact Nat.le_refl _ | omega | exact dd1.size | exact dd2.size | exact dd3.size) _
          have hR : RdE ((v4.setCell ⟨w2.heap.size, 0, none⟩ (.int .i64 N)).setCell ⟨w2.heap.size, 1, none⟩ (.slice A3 M0 c3)) A3 rs := (hF.away (((Only.refl _ _).set 0 _).set 1 _ : Only (some ⟨w2.heap.size, 0, none⟩) v4 _) hlz).rd
          clear hS
          have hS : ((v4.setCell ⟨w2.heap.size, 0, none⟩ (.int .i64 N)).setCell ⟨w2.heap.size, 1, none⟩ (.slice A3 M0 c3)).cell? ⟨w.heap.size, 0, none⟩ = some (.int .i64 n) ∧ ((v4.setCell ⟨w2.heap.size, 0, none⟩ (.int .i64 N)).setCell ⟨w2.heap.size, 1, none⟩ (.slice A3 M0 c3)).cell? ⟨w.heap.size, 1, none⟩ = some (.slice A L c) ∧ ((v4.setCell ⟨w2.heap.size, 0, none⟩ (.int .i64 N)).setCell ⟨w2.heap.size, 1, none⟩ (.slice A3 M0 c3)).cell? ⟨w.heap.size + 1, 0, none⟩ = some (.int .i64 m) ∧ ((v4.setCell ⟨w2.heap.size, 0, none⟩ (.int .i64 N)).setCell ⟨w2.heap.size, 1, none⟩ (.slice A3 M0 c3)).cell? ⟨w.heap.size + 1, 1, none⟩ = some (.slice B M d) := ⟨((bcell cU).1 _ _ (by omega)).trans k00, ((bcell cU).1 _ _ (by omega)).trans k01, ((bcell cU).1 _ _ s2).trans k10, ((bcell cU).1 _ _ s2).trans k11⟩
          refine hK.out _ _ ?s36 (fun hHeld36 => ?_)
          case s36 => ((try dsimp only); (first | exact hS | exact ⟨k00, k01, k10, k11⟩ | assumption | (first | go_keep | (obtain ⟨hq, _⟩ := bcell ‹Below _ _ _›; (repeat' apply And.intro) <;> (rw [hq _ _ (by first | assumption | omega | (simp; done) | (simp; omega) | (simp; assumption))] <;> (first | assumption | (simp [*]; done)))))))
          clear hK K hHeld
          have hHeld := hHeld36; clear hHeld36
          try simp only [Act.put, List.setIfInBounds_toArray, List.set_cons_zero, List.set_cons_succ]
          have HU : Hid _ := hZ
          refine wpAnyH_take_d (i := 12) (d := some 11) (v := ?v37) rfl rfl (by kernel_rfl) (by kernel_rfl) (by kernel_rfl) (fun _ _ _ h => h) (Or.inl ⟨by kernel_rfl, ?y37⟩) (by assumption) ?_
          case y37 => (intro w' hSw; (try dsimp only at hSw); go_simp; try with_reducible rfl)
          try simp only [Act.put, List.setIfInBounds_toArray, List.set_cons_zero, List.set_cons_succ]
          refine wpAnyH_done (by kernel_rfl) ?_ _
          refine NoPanic.normal ?_
          (try go_wp2_with fail)
          go_meet
          exact ⟨_, A3, c3, rfl, rfl, Lib.hid hZ, Lib.hid hR, Lib.hid cU⟩
      case rest =>
        obtain ⟨gX, A3, c3, rfl, rfl, X0, W0, Hu⟩ := hcut
        obtain ⟨u3, hu3⟩ : ∃ u, u = wc := ⟨_, rfl⟩
        subst hu3
        have KG3 := Lib.hid (KG2.out.below Hu.out (by omega))
        have KH3 := Lib.hid (KH2.out.below Hu.out s2)
        have B3 := Lib.hid (B2.trans (Hu.out.mono B2.size))
        have s3 := KH3.out.lt
        clear KG2 KH2 B2 s2 k00 k01 k10 k11 cp cs cs2 Hu
        have k00 := KG3.out.cellAt 0 _ rfl
        have k01 := KG3.out.cellAt 1 _ rfl
        go_wp2_with fail
        refine (ct1.out u3 B3.out).mono ?_
        rintro x w7 ⟨gA, rfl, hgA, hE7, hb7⟩
        obtain ⟨u7, hu7⟩ : ∃ u, u = w7.alloc (.cells #[.int .i64 n, .slice (some ⟨gA, 0, none⟩) L L] 28) := ⟨_, rfl⟩
        have D7 : Hid (Below u3.heap.size u3 u7) := by rw [hu7]; exact hb7.alloc hb7.size _
        have X7 : Hid (Blk u7 w7.heap.size 28 #[.int .i64 n, .slice (some ⟨gA, 0, none⟩) L L]) := by rw [hu7]; exact Blk.new w7 _ _
        have E7 : Hid (Blk u7 gA 45 (cE es).toArray) := by rw [hu7]; exact hE7.alloc _
        have KH7 := Lib.hid (KH3.out.below D7.out s3)
        have B7 := Lib.hid (B3.out.trans (D7.out.mono B3.out.size))
        have HgA := Lib.hid hgA
        have k10 := KH7.out.cellAt 0 _ rfl
        have k11 := KH7.out.cellAt 1 _ rfl
        rw [hu7] at k10 k11
        clear hE7 hb7 hgA k00 k01 KH7
        go_wp2_with fail
        rw [← hu7]
        clear hu7
        refine (ct2.out u7 B7.out).mono ?_
        rintro x w8 ⟨gB, rfl, hgB, hE8, hb8⟩
        obtain ⟨u8, hu8⟩ : ∃ u, u = w8.alloc (.cells #[.int .i64 m, .slice (some ⟨gB, 0, none⟩) M M] 28) := ⟨_, rfl⟩
        have b78 : Below u7.heap.size u7 u8 := by rw [hu8]; exact hb8.alloc hb8.size _
        have HAB : Hid (gA < gB) := Nat.lt_of_lt_of_le E7.out.lt hgB
        have HAY : Hid (gA < w8.heap.size) := Nat.lt_of_lt_of_le E7.out.lt hb8.size
        have Y8 : Hid (Blk u8 w8.heap.size 28 #[.int .i64 m, .slice (some ⟨gB, 0, none⟩) M M]) := by rw [hu8]; exact Blk.new w8 _ _
        have F8 : Hid (Blk u8 gB 45 (cE hs).toArray) := by rw [hu8]; exact hE8.alloc _
        have X8 := Lib.hid (X7.out.below b78 X7.out.lt)
        have E8 := Lib.hid (E7.out.below b78 E7.out.lt)
        have D8 : Hid (Below u3.heap.size u3 u8) := D7.out.trans (b78.mono D7.out.size)
        have x0 := X8.out.cellAt 0 _ rfl
        have x1 := X8.out.cellAt 1 _ rfl
        have y0 := Y8.out.cellAt 0 _ rfl
        have y1 := Y8.out.cellAt 1 _ rfl
        rw [hu8] at x0 x1 y0 y1
        clear hE8 hb8 hgB b78 B7 X7 E7 D7 k10 k11
        go_wp2_with fail
        rw [← hu8]
        clear hu8
        refine (ci.out u8 gA gB E8.out F8.out).mono ?_
        rintro x w10 ⟨hq10, hb10⟩
        obtain ⟨A5, c5, rfl, hF5⟩ := hq10.open_ HM0.out
        obtain ⟨u10, hu10⟩ : ∃ u, u = w10.alloc (.cells #[.int .i64 N, .slice A5 M0 c5] 28) := ⟨_, rfl⟩
        have b10 : Below w10.heap.size w10 u10 := by rw [hu10]; exact Below.alloc (Below.refl _ _) (Nat.le_refl _) _
        have bb10 : Below u8.heap.size u8 u10 := hb10.trans (b10.mono hb10.size)
        have D10 : Hid (Below u3.heap.size u3 u10) := D8.out.trans (bb10.mono D8.out.size)
        have G10 : Hid (Blk u10 w10.heap.size 28 #[.int .i64 N, .slice A5 M0 c5]) := by rw [hu10]; exact Blk.new w10 _ _
        have U10 : Hid (UpE w10.heap.size A5 rs) := hF5.up
        have FR10 : Hid (FrE u10 u8.heap.size A5 rs) := hF5.below b10
        have X10 := Lib.hid (X8.out.below bb10 X8.out.lt)
        have E10 := Lib.hid (E8.out.below bb10 E8.out.lt)
        have Y10 := Lib.hid (Y8.out.below bb10 Y8.out.lt)
        have F10 := Lib.hid (F8.out.below bb10 F8.out.lt)
        have HA8 : Hid (gA < u8.heap.size) := E8.out.lt
        have HB8 : Hid (gB < u8.heap.size) := F8.out.lt
        have H810 : Hid (u8.heap.size ≤ w10.heap.size) := hb10.size
        have x50 := G10.out.cellAt 0 _ rfl
        have x51 := G10.out.cellAt 1 _ rfl
        have y50 := (X0.out.below D10.out X0.out.lt).cellAt 0 _ rfl
        have y51 := (X0.out.below D10.out X0.out.lt).cellAt 1 _ rfl
        rw [hu10] at x50 x51 y50 y51
        clear hq10 hF5 hb10 b10 bb10 X8 E8 Y8 F8 D8 x0 x1 y0 y1
        go_wp2_with fail
        rw [← hu10]
        clear hu10
        refine (cq.out _ _ _ _ _ FR10.out.rd (W0.out.below D10.out)).mono ?_
        rintro x w11 ⟨rfl, hb11⟩
        have D11 : Hid (Below u3.heap.size u3 w11) := D10.out.trans (hb11.mono D10.out.size)
        have FR11 := Lib.hid (FR10.out.below hb11)
        have G11 := Lib.hid (G10.out.below hb11 G10.out.lt)
        have X11 := X10.out.below hb11 X10.out.lt
        have E11 := E10.out.below hb11 E10.out.lt
        have Y11 := Lib.hid (Y10.out.below hb11 Y10.out.lt)
        have F11 := Lib.hid (F10.out.below hb11 F10.out.lt)
        have KG11 := KG3.out.below D11.out KG3.out.lt
        have B11 := B3.out.trans (D11.out.mono B3.out.size)
        clear hb11 D10 FR10 G10 X10 E10 Y10 F10 x50 x51 y50 y51
        have x0 := X11.cellAt 0 _ rfl
        have x1 := X11.cellAt 1 _ rfl
        have d0 := KG11.cellAt 0 _ rfl
        have d1 := KG11.cellAt 1 _ rfl
        have zx := X11.lt
        have zk := KG11.lt
        go_wp2
        refine wp_region_noPanic ?_
        refine wp_region_held_drew (S := (fun w' => w'.cell? ⟨w.heap.size, 0, none⟩ = some (.int .i64 n) ∧ w'.cell? ⟨w.heap.size, 1, none⟩ = some (.slice A L c) ∧ w'.cell? ⟨w7.heap.size, 0, none⟩ = some (.int .i64 n) ∧ w'.cell? ⟨w7.heap.size, 1, none⟩ = some (.slice (some ⟨gA, 0, none⟩) L L))) (by kernel_rfl) ?_ (fun hHeld => ?_)
        · (try dsimp only); (first | go_keep | (obtain ⟨hq, _⟩ := bcell ‹Below _ _ _›; (repeat' apply And.intro) <;> (rw [hq _ _ (by first | assumption | omega | (simp; done) | (simp; omega) | (simp; assumption))] <;> (first | assumption | (simp [*]; done)))))
        refine wpAnyH_take_d (i := 0) (d := some 62) (v := ?v38) rfl rfl (by kernel_rfl) (by kernel_rfl) (by kernel_rfl) (fun _ _ _ h => h) (Or.inl ⟨by kernel_rfl, ?y38⟩) (by assumption) ?_
        case y38 => (intro w' hSw; (try dsimp only at hSw); go_simp; try with_reducible rfl)
        try simp only [Act.put, List.setIfInBounds_toArray, List.set_cons_zero, List.set_cons_succ]
        refine wpAnyH_take_d (i := 1) (d := some 63) (v := ?v39) rfl rfl (by kernel_rfl) (by kernel_rfl) (by kernel_rfl) (fun _ _ _ h => h) (Or.inl ⟨by kernel_rfl, ?y39⟩) (by assumption) ?_
        case y39 => (intro w' hSw; (try dsimp only at hSw); go_simp; try with_reducible rfl)
        try simp only [Act.put, List.setIfInBounds_toArray, List.set_cons_zero, List.set_cons_succ]
        refine wpAnyH_ready (rs := [2]) (by kernel_rfl) (by simp) ?_
        refine AllReadyH.cons rfl (fun K hK => ?_) AllReadyH.nil
        go_simp
        refine (ct1.out _ B11.drew).mono ?_; rintro x w12 ⟨g3, rfl, hg3, hE3, hb12⟩; have z12 := hb12.size; (try simp only [World.size_alloc, World.size_setCell, World.size_drew] at z12)
        refine hK.out _ _ ?s40 (fun hHeld40 => ?_)
        case s40 => ((try dsimp only); (first | go_keep | (obtain ⟨hq, _⟩ := bcell ‹Below _ _ _›; (repeat' apply And.intro) <;> (rw [hq _ _ (by first | assumption | omega | (simp; done) | (simp; omega) | (simp; assumption))] <;> (first | assumption | (simp [*]; done))))))
        clear hK K hHeld
        have hHeld := hHeld40; clear hHeld40
        try simp only [Act.put, List.setIfInBounds_toArray, List.set_cons_zero, List.set_cons_succ]
        refine wpAnyH_ready (rs := [3]) (by kernel_rfl) (by simp) ?_
        refine AllReadyH.cons rfl (fun K hK => ?_) AllReadyH.nil
        go_simp
        refine (ce1.out _ _ _ (E11.drew.below hb12 E11.lt) hE3).mono ?_; rintro x w13 ⟨rfl, hb13⟩; have z13 := hb13.size; (try simp only [World.size_alloc, World.size_setCell, World.size_drew] at z13)
        refine hK.out _ _ ?s41 (fun hHeld41 => ?_)
        case s41 => ((try dsimp only); (first | go_keep | (obtain ⟨hq, _⟩ := bcell ‹Below _ _ _›; (repeat' apply And.intro) <;> (rw [hq _ _ (by first | assumption | omega | (simp; done) | (simp; omega) | (simp; assumption))] <;> (first | assumption | (simp [*]; done))))))
        clear hK K hHeld
        have hHeld := hHeld41; clear hHeld41
        try simp only [Act.put, List.setIfInBounds_toArray, List.set_cons_zero, List.set_cons_succ]
        refine wpAnyH_take_d (i := 4) (d := some 66) (v := ?v42) rfl rfl (by kernel_rfl) (by kernel_rfl) (by kernel_rfl) (fun _ _ _ h => h) (Or.inl ⟨by kernel_rfl, ?y42⟩) (by assumption) ?_
        case y42 => (intro w' hSw; (try dsimp only at hSw); go_simp; try with_reducible rfl)
        try simp only [Act.put, List.setIfInBounds_toArray, List.set_cons_zero, List.set_cons_succ]
        refine wpAnyH_done (by kernel_rfl) ?_ _
        refine NoPanic.normal ?_
        have b13 : Below w11.heap.size w11 w13 := (Below.drew (Below.refl _ _)).trans (hb12.trans (hb13.mono z12))
        have D13 : Hid (Below u3.heap.size u3 w13) := D11.out.trans (b13.mono D11.out.size)
        have FR13 := Lib.hid (FR11.out.below b13)
        have G13 := Lib.hid (G11.out.below b13 G11.out.lt)
        have E13 := Lib.hid (E11.below b13 E11.lt)
        have X13 := Lib.hid (X11.below b13 X11.lt)
        have Y13 := Y11.out.below b13 Y11.out.lt
        have F13 := F11.out.below b13 F11.out.lt
        have KH13 := KH3.out.below D13.out s3
        have B13 := B3.out.trans (D13.out.mono B3.out.size)
        clear hHeld hb12 hb13 hE3 hg3 b13 X11 E11 KG11 B11 D11 FR11 G11 Y11 F11 x0 x1 d0 d1 zx zk z12 z13
        have x0 := Y13.cellAt 0 _ rfl
        have x1 := Y13.cellAt 1 _ rfl
        have d0 := KH13.cellAt 0 _ rfl
        have d1 := KH13.cellAt 1 _ rfl
        have zx := Y13.lt
        have zk := KH13.lt
        go_wp2
        refine wp_region_noPanic ?_
        refine wp_region_held_drew (S := (fun w' => w'.cell? ⟨w.heap.size + 1, 0, none⟩ = some (.int .i64 m) ∧ w'.cell? ⟨w.heap.size + 1, 1, none⟩ = some (.slice B M d) ∧ w'.cell? ⟨w8.heap.size, 0, none⟩ = some (.int .i64 m) ∧ w'.cell? ⟨w8.heap.size, 1, none⟩ = some (.slice (some ⟨gB, 0, none⟩) M M))) (by kernel_rfl) ?_ (fun hHeld => ?_)
        · (try dsimp only); (first | go_keep | (obtain ⟨hq, _⟩ := bcell ‹Below _ _ _›; (repeat' apply And.intro) <;> (rw [hq _ _ (by first | assumption | omega | (simp; done) | (simp; omega) | (simp; assumption))] <;> (first | assumption | (simp [*]; done)))))
        refine wpAnyH_take_d (i := 0) (d := some 67) (v := ?v43) rfl rfl (by kernel_rfl) (by kernel_rfl) (by kernel_rfl) (fun _ _ _ h => h) (Or.inl ⟨by kernel_rfl, ?y43⟩) (by assumption) ?_
        case y43 => (intro w' hSw; (try dsimp only at hSw); go_simp; try with_reducible rfl)
        try simp only [Act.put, List.setIfInBounds_toArray, List.set_cons_zero, List.set_cons_succ]
        refine wpAnyH_take_d (i := 1) (d := some 68) (v := ?v44) rfl rfl (by kernel_rfl) (by kernel_rfl) (by kernel_rfl) (fun _ _ _ h => h) (Or.inl ⟨by kernel_rfl, ?y44⟩) (by assumption) ?_
        case y44 => (intro w' hSw; (try dsimp only at hSw); go_simp; try with_reducible rfl)
        try simp only [Act.put, List.setIfInBounds_toArray, List.set_cons_zero, List.set_cons_succ]
        refine wpAnyH_ready (rs := [2]) (by kernel_rfl) (by simp) ?_
        refine AllReadyH.cons rfl (fun K hK => ?_) AllReadyH.nil
        go_simp
        refine (ct2.out _ B13.drew).mono ?_; rintro x w14 ⟨g4, rfl, hg4, hE4, hb14⟩; have z14 := hb14.size; (try simp only [World.size_alloc, World.size_setCell, World.size_drew] at z14)
        refine hK.out _ _ ?s45 (fun hHeld45 => ?_)
        case s45 => ((try dsimp only); (first | go_keep | (obtain ⟨hq, _⟩ := bcell ‹Below _ _ _›; (repeat' apply And.intro) <;> (rw [hq _ _ (by first | assumption | omega | (simp; done) | (simp; omega) | (simp; assumption))] <;> (first | assumption | (simp [*]; done))))))
        clear hK K hHeld
        have hHeld := hHeld45; clear hHeld45
        try simp only [Act.put, List.setIfInBounds_toArray, List.set_cons_zero, List.set_cons_succ]
        refine wpAnyH_ready (rs := [3]) (by kernel_rfl) (by simp) ?_
        refine AllReadyH.cons rfl (fun K hK => ?_) AllReadyH.nil
        go_simp
        refine (ce2.out _ _ _ (F13.drew.below hb14 F13.lt) hE4).mono ?_; rintro x w15 ⟨rfl, hb15⟩; have z15 := hb15.size; (try simp only [World.size_alloc, World.size_setCell, World.size_drew] at z15)
        refine hK.out _ _ ?s46 (fun hHeld46 => ?_)
        case s46 => ((try dsimp only); (first | go_keep | (obtain ⟨hq, _⟩ := bcell ‹Below _ _ _›; (repeat' apply And.intro) <;> (rw [hq _ _ (by first | assumption | omega | (simp; done) | (simp; omega) | (simp; assumption))] <;> (first | assumption | (simp [*]; done))))))
        clear hK K hHeld
        have hHeld := hHeld46; clear hHeld46
        try simp only [Act.put, List.setIfInBounds_toArray, List.set_cons_zero, List.set_cons_succ]
        refine wpAnyH_take_d (i := 4) (d := some 71) (v := ?v47) rfl rfl (by kernel_rfl) (by kernel_rfl) (by kernel_rfl) (fun _ _ _ h => h) (Or.inl ⟨by kernel_rfl, ?y47⟩) (by assumption) ?_
        case y47 => (intro w' hSw; (try dsimp only at hSw); go_simp; try with_reducible rfl)
        try simp only [Act.put, List.setIfInBounds_toArray, List.set_cons_zero, List.set_cons_succ]
        refine wpAnyH_done (by kernel_rfl) ?_ _
        refine NoPanic.normal ?_
        have b15 : Below w13.heap.size w13 w15 := (Below.drew (Below.refl _ _)).trans (hb14.trans (hb15.mono z14))
        have D15 : Hid (Below u3.heap.size u3 w15) := D13.out.trans (b15.mono D13.out.size)
        have FR15 := Lib.hid (FR13.out.below b15)
        have G15 := Lib.hid (G13.out.below b15 G13.out.lt)
        have E15 := Lib.hid (E13.out.below b15 E13.out.lt)
        have F15 := Lib.hid (F13.below b15 F13.lt)
        have X15 := Lib.hid (X13.out.below b15 X13.out.lt)
        have Y15 := Lib.hid (Y13.below b15 Y13.lt)
        clear hHeld hb14 hb15 hE4 hg4 b15 Y13 X13 E13 F13 KH13 B13 D13 FR13 G13 x0 x1 d0 d1 zx zk z14 z15
        have x0 := X15.out.cellAt 0 _ rfl
        have x1 := X15.out.cellAt 1 _ rfl
        go_wp2_with fail
        refine (cm1.out w15 gA (Nat.le_of_lt E15.out.lt) (blkE_fr E15.out)).mono ?_
        rintro x w16 ⟨rfl, ho16, hb16, _⟩
        have D16 : Hid (Below u3.heap.size u3 w16) := D15.out.trans (hb16.mono HgA.out)
        have FR16 := Lib.hid (FR15.out.away ho16 HA8.out)
        have keep16 : ∀ g, g < w15.heap.size → g ≠ gA → w16.heap[g]? = w15.heap[g]? := fun g h1 h2 => ho16.block g h1 (fun o e9 => by injection e9 with e9; injection e9 with e9; omega)
        have hX0 := X0.out.lt
        have G16 : Hid (Blk w16 w10.heap.size 28 #[.int .i64 N, .slice A5 M0 c5]) := (keep16 _ G15.out.lt (by have := HA8.out; have := H810.out; omega)).trans G15.out
        have F16 : Hid (Blk w16 gB 45 (cE hs).toArray) := (keep16 _ F15.out.lt (by have := HAB.out; omega)).trans F15.out
        have Y16 : Hid (Blk w16 w8.heap.size 28 #[.int .i64 m, .slice (some ⟨gB, 0, none⟩) M M]) := (keep16 _ Y15.out.lt (by have := HAY.out; omega)).trans Y15.out
        clear ho16 hb16 keep16 hX0 D15 FR15 G15 E15 F15 X15 Y15 x0 x1
        have x0 := Y16.out.cellAt 0 _ rfl
        have x1 := Y16.out.cellAt 1 _ rfl
        go_wp2_with fail
        refine (cm2.out w16 gB (Nat.le_of_lt F16.out.lt) (blkE_fr F16.out)).mono ?_
        rintro x w17 ⟨rfl, ho17, hb17, _⟩
        have D17 : Hid (Below u3.heap.size u3 w17) := D16.out.trans (hb17.mono (by have := HgA.out; have := HAB.out; omega))
        have FR17 := Lib.hid (FR16.out.away ho17 HB8.out)
        have G17 : Hid (Blk w17 w10.heap.size 28 #[.int .i64 N, .slice A5 M0 c5]) := (ho17.block _ G16.out.lt (fun o e9 => by injection e9 with e9; injection e9 with e9; have := HB8.out; have := H810.out; omega)).trans G16.out
        clear ho17 hb17 D16 FR16 G16 F16 Y16 x0 x1
        have x50 := G17.out.cellAt 0 _ rfl
        have x51 := G17.out.cellAt 1 _ rfl
        have y50 := (X0.out.below D17.out X0.out.lt).cellAt 0 _ rfl
        have y51 := (X0.out.below D17.out X0.out.lt).cellAt 1 _ rfl
        go_wp2_with fail
        refine (cq.out _ _ _ _ _ FR17.out.rd (W0.out.below D17.out)).mono ?_
        rintro x w18 ⟨rfl, hb18⟩
        have D18 : Hid (Below u3.heap.size u3 w18) := D17.out.trans (hb18.mono D17.out.size)
        have FR18 := Lib.hid (FR17.out.below hb18)
        have G18 : Hid (Blk w18 w10.heap.size 28 #[.int .i64 N, .slice A5 M0 c5]) := G17.out.below hb18 G17.out.lt
        have x60 := G18.out.cellAt 0 _ rfl
        have x61 := G18.out.cellAt 1 _ rfl
        have zg18 := G18.out.lt
        have hn18 : u8.heap.size ≤ w18.heap.size := by have := H810.out; omega
        have hu38 : u3.heap.size ≤ u8.heap.size := by have := HgA.out; have := HA8.out; omega
        clear D17 FR17 G17 hb18 x50 x51 y50 y51
        go_wp2_with fail
        refine (ck.out _ _ _ _ _ hn18 FR18.out U10.out).mono ?_
        rintro x w19 ⟨rfl, ho19, hb19, hF19⟩
        have D19 : Hid (Below u3.heap.size u3 w19) := D18.out.trans (hb19.mono hu38)
        have FR19 := Lib.hid hF19
        have G19 : Hid (Blk w19 w10.heap.size 28 #[.int .i64 N, .slice A5 M0 c5]) := (ho19 _ (Nat.le_refl _) zg18).trans G18.out
        have x50 := G19.out.cellAt 0 _ rfl
        have x51 := G19.out.cellAt 1 _ rfl
        clear ho19 hb19 hF19 D18 FR18 G18 x60 x61 zg18 hn18 hu38
        go_wp2_with fail
        refine (ch.out _ _ _ FR19.out.rd).mono ?_
        rintro x w20 ⟨rfl, hb20⟩
        have D20 : Hid (Below u3.heap.size u3 w20) := D19.out.trans (hb20.mono D19.out.size)
        have FR20 := Lib.hid (FR19.out.below hb20)
        have G20 : Hid (Blk w20 w10.heap.size 28 #[.int .i64 N, .slice A5 M0 c5]) := G19.out.below hb20 G19.out.lt
        have KG20 := Lib.hid (KG3.out.below D20.out KG3.out.lt)
        have KH20 := Lib.hid (KH3.out.below D20.out s3)
        have B20 : Below w.heap.size w w20 := B3.out.trans (D20.out.mono B3.out.size)
        have s2 := KH20.out.lt
        clear hb20 D19 FR19 G19 x50 x51
        have k00 := KG20.out.cellAt 0 _ rfl
        have k01 := KG20.out.cellAt 1 _ rfl
        have k10 := KH20.out.cellAt 0 _ rfl
        have k11 := KH20.out.cellAt 1 _ rfl
        go_wp2
        go_cut [19, 20] (fun sg sv wx => ∃ g A3 c3, sg = .pointer (some ⟨g, 0, none⟩) ∧ sv = .int .i64 v9 ∧ Hid (Blk wx g 28 #[.int .i64 N, .slice A3 M0 c3]) ∧ Hid (RdE wx A3 rs) ∧ Hid (Below w20.heap.size w20 wx))
        case first =>
          have b0 : Below w20.heap.size w20 w20.drew := Below.drew (Below.refl _ _)
          refine wp_region_noPanic ?_
          refine wp_region_held_drew (S := (fun w' => w'.cell? ⟨w.heap.size, 0, none⟩ = some (.int .i64 n) ∧ w'.cell? ⟨w.heap.size, 1, none⟩ = some (.slice A L c) ∧ w'.cell? ⟨w.heap.size + 1, 0, none⟩ = some (.int .i64 m) ∧ w'.cell? ⟨w.heap.size + 1, 1, none⟩ = some (.slice B M d))) (by kernel_rfl) ?_ (fun hHeld => ?_)
          · (try dsimp only); (first | exact hS | exact ⟨k00, k01, k10, k11⟩ | assumption | (first | go_keep | (obtain ⟨hq, _⟩ := bcell ‹Below _ _ _›; (repeat' apply And.intro) <;> (rw [hq _ _ (by first | assumption | omega | (simp; done) | (simp; omega) | (simp; assumption))] <;> (first | assumption | (simp [*]; done))))))
          refine wpAnyH_take_d (i := 0) (d := some 103) (v := ?v48) rfl rfl (by kernel_rfl) (by kernel_rfl) (by kernel_rfl) (fun _ _ _ h => h) (Or.inl ⟨by kernel_rfl, ?y48⟩) (by assumption) ?_
          case y48 => (intro w' hSw; (try dsimp only at hSw); go_simp; try with_reducible rfl)
          try simp only [Act.put, List.setIfInBounds_toArray, List.set_cons_zero, List.set_cons_succ]
          refine wpAnyH_take_d (i := 2) (d := some 105) (v := ?v49) rfl rfl (by kernel_rfl) (by kernel_rfl) (by kernel_rfl) (fun _ _ _ h => h) (Or.inl ⟨by kernel_rfl, ?y49⟩) (by assumption) ?_
          case y49 => (intro w' hSw; (try dsimp only at hSw); go_simp; try with_reducible rfl)
          try simp only [Act.put, List.setIfInBounds_toArray, List.set_cons_zero, List.set_cons_succ]
          refine wpAnyH_take_d (i := 3) (d := some 106) (v := ?v50) rfl rfl (by kernel_rfl) (by kernel_rfl) (by kernel_rfl) (fun _ _ _ h => h) (Or.inl ⟨by kernel_rfl, ?y50⟩) (by assumption) ?_
          case y50 => (intro w' hSw; (try dsimp only at hSw); go_simp; try with_reducible rfl)
          try simp only [Act.put, List.setIfInBounds_toArray, List.set_cons_zero, List.set_cons_succ]
          refine wpAnyH_take_d (i := 5) (d := some 108) (v := ?v51) rfl rfl (by kernel_rfl) (by kernel_rfl) (by kernel_rfl) (fun _ _ _ h => h) (Or.inl ⟨by kernel_rfl, ?y51⟩) (by assumption) ?_
          case y51 => (intro w' hSw; (try dsimp only at hSw); go_simp; try with_reducible rfl)
          try simp only [Act.put, List.setIfInBounds_toArray, List.set_cons_zero, List.set_cons_succ]
          refine wpAnyH_ready (rs := [1, 10]) (by kernel_rfl) (by simp) ?_
          refine AllReadyH.cons rfl (fun K hK => ?_) (AllReadyH.cons rfl (fun K hK => ?_) (AllReadyH.nil))
          · go_simp
            refine (ct1.out _ (B20.trans (b0.mono B20.size))).mono ?_
            rintro xx v1 ⟨g1, rfl, hg1, hE1, hb1⟩
            have dd1 : Below w20.heap.size w20 v1 := b0.trans (hb1.mono b0.size)
            have hS : v1.cell? ⟨w.heap.size, 0, none⟩ = some (.int .i64 n) ∧ v1.cell? ⟨w.heap.size, 1, none⟩ = some (.slice A L c) ∧ v1.cell? ⟨w.heap.size + 1, 0, none⟩ = some (.int .i64 m) ∧ v1.cell? ⟨w.heap.size + 1, 1, none⟩ = some (.slice B M d) := ⟨((bcell dd1).1 _ _ (by omega)).trans k00, ((bcell dd1).1 _ _ (by omega)).trans k01, ((bcell dd1).1 _ _ s2).trans k10, ((bcell dd1).1 _ _ s2).trans k11⟩
            refine hK.out _ _ ?s52 (fun hHeld52 => ?_)
            case s52 => ((try dsimp only); (first | exact hS | exact ⟨k00, k01, k10, k11⟩ | assumption | (first | go_keep | (obtain ⟨hq, _⟩ := bcell ‹Below _ _ _›; (repeat' apply And.intro) <;> (rw [hq _ _ (by first | assumption | omega | (simp; done) | (simp; omega) | (simp; assumption))] <;> (first | assumption | (simp [*]; done)))))))
            clear hK K hHeld
            have hHeld := hHeld52; clear hHeld52
            try simp only [Act.put, List.setIfInBounds_toArray, List.set_cons_zero, List.set_cons_succ]
            refine wpAnyH_ready (rs := [4, 10]) (by kernel_rfl) (by simp) ?_
            refine AllReadyH.cons rfl (fun K hK => ?_) (AllReadyH.cons rfl (fun K hK => ?_) (AllReadyH.nil))
            · go_simp
              refine (ct2.out _ (B20.trans (dd1.mono B20.size))).mono ?_
              rintro xx v2 ⟨g2, rfl, hg2, hE2, hb2⟩
              have dd2 : Below w20.heap.size w20 v2 := dd1.trans (hb2.mono dd1.size)
              have e21 := hE1.below hb2 hE1.lt
              have hS : v2.cell? ⟨w.heap.size, 0, none⟩ = some (.int .i64 n) ∧ v2.cell? ⟨w.heap.size, 1, none⟩ = some (.slice A L c) ∧ v2.cell? ⟨w.heap.size + 1, 0, none⟩ = some (.int .i64 m) ∧ v2.cell? ⟨w.heap.size + 1, 1, none⟩ = some (.slice B M d) := ⟨((bcell dd2).1 _ _ (by omega)).trans k00, ((bcell dd2).1 _ _ (by omega)).trans k01, ((bcell dd2).1 _ _ s2).trans k10, ((bcell dd2).1 _ _ s2).trans k11⟩
              refine hK.out _ _ ?s53 (fun hHeld53 => ?_)
              case s53 => ((try dsimp only); (first | exact hS | exact ⟨k00, k01, k10, k11⟩ | assumption | (first | go_keep | (obtain ⟨hq, _⟩ := bcell ‹Below _ _ _›; (repeat' apply And.intro) <;> (rw [hq _ _ (by first | assumption | omega | (simp; done) | (simp; omega) | (simp; assumption))] <;> (first | assumption | (simp [*]; done)))))))
              clear hK K hHeld
              have hHeld := hHeld53; clear hHeld53
              try simp only [Act.put, List.setIfInBounds_toArray, List.set_cons_zero, List.set_cons_succ]
              refine wpAnyH_ready (rs := [6, 10]) (by kernel_rfl) (by simp) ?_
              refine AllReadyH.cons rfl (fun K hK => ?_) (AllReadyH.cons rfl (fun K hK => ?_) (AllReadyH.nil))
              · go_simp
                refine (ci.out v2 g1 g2 e21 hE2).mono ?_
                rintro xx v3 ⟨hq, hb3⟩
                obtain ⟨A3, c3, rfl, hF⟩ := hq.open_ HM0.out
                have dd3 : Below w20.heap.size w20 v3 := dd2.trans (hb3.mono dd2.size)
                have hS : v3.cell? ⟨w.heap.size, 0, none⟩ = some (.int .i64 n) ∧ v3.cell? ⟨w.heap.size, 1, none⟩ = some (.slice A L c) ∧ v3.cell? ⟨w.heap.size + 1, 0, none⟩ = some (.int .i64 m) ∧ v3.cell? ⟨w.heap.size + 1, 1, none⟩ = some (.slice B M d) := ⟨((bcell dd3).1 _ _ (by omega)).trans k00, ((bcell dd3).1 _ _ (by omega)).trans k01, ((bcell dd3).1 _ _ s2).trans k10, ((bcell dd3).1 _ _ s2).trans k11⟩
                refine hK.out _ _ ?s54 (fun hHeld54 => ?_)
                case s54 => ((try dsimp only); (first | exact hS | exact ⟨k00, k01, k10, k11⟩ | assumption | (first | go_keep | (obtain ⟨hq, _⟩ := bcell ‹Below _ _ _›; (repeat' apply And.intro) <;> (rw [hq _ _ (by first | assumption | omega | (simp; done) | (simp; omega) | (simp; assumption))] <;> (first | assumption | (simp [*]; done)))))))
                clear hK K hHeld
                have hHeld := hHeld54; clear hHeld54
                try simp only [Act.put, List.setIfInBounds_toArray, List.set_cons_zero, List.set_cons_succ]
                refine wpAnyH_take_d (i := 7) (d := some 102) (v := ?v55) rfl rfl (by kernel_rfl) (by kernel_rfl) (by kernel_rfl) (fun _ _ _ h => h) (Or.inl ⟨by kernel_rfl, ?y55⟩) (by assumption) ?_
                case y55 => (intro w' hSw; (try dsimp only at hSw); go_simp; try with_reducible rfl)
                try simp only [Act.put, List.setIfInBounds_toArray, List.set_cons_zero, List.set_cons_succ]
                refine wpAnyH_take_d (i := 8) (d := some 110) (v := ?v56) rfl rfl (by kernel_rfl) (by kernel_rfl) (by kernel_rfl) (fun _ _ _ h => h) (Or.inl ⟨by kernel_rfl, ?y56⟩) (by assumption) ?_
                case y56 => (intro w' hSw; (try dsimp only at hSw); go_simp; try with_reducible rfl)
                try simp only [Act.put, List.setIfInBounds_toArray, List.set_cons_zero, List.set_cons_succ]
                refine wpAnyH_take_d (i := 9) (d := some 111) (v := ?v57) rfl rfl (by kernel_rfl) (by kernel_rfl) (by kernel_rfl) (fun _ _ _ h => h) (Or.inl ⟨by kernel_rfl, ?y57⟩) (by assumption) ?_
                case y57 => (intro w' hSw; (try dsimp only at hSw); go_simp; try with_reducible rfl)
                try simp only [Act.put, List.setIfInBounds_toArray, List.set_cons_zero, List.set_cons_succ]
                refine wpAnyH_ready (rs := [10]) (by kernel_rfl) (by simp) ?_
                refine AllReadyH.cons rfl (fun K hK => ?_) AllReadyH.nil
                go_simp
                have dd4 : Below w20.heap.size w20 (v3.alloc (.cells #[.int .i64 0, .slice none 0 0] 28)) := dd3.alloc dd3.size _
                have hz4 : Blk (v3.alloc (.cells #[.int .i64 0, .slice none 0 0] 28)) v3.heap.size 28 #[.int .i64 0, .slice none 0 0] := Blk.new v3 _ _
                have e41 := e21.alloc (.cells #[.int .i64 0, .slice none 0 0] 28)
                have e42 := hE2.alloc (.cells #[.int .i64 0, .slice none 0 0] 28)
                have hS : (v3.alloc (.cells #[.int .i64 0, .slice none 0 0] 28)).cell? ⟨w.heap.size, 0, none⟩ = some (.int .i64 n) ∧ (v3.alloc (.cells #[.int .i64 0, .slice none 0 0] 28)).cell? ⟨w.heap.size, 1, none⟩ = some (.slice A L c) ∧ (v3.alloc (.cells #[.int .i64 0, .slice none 0 0] 28)).cell? ⟨w.heap.size + 1, 0, none⟩ = some (.int .i64 m) ∧ (v3.alloc (.cells #[.int .i64 0, .slice none 0 0] 28)).cell? ⟨w.heap.size + 1, 1, none⟩ = some (.slice B M d) := ⟨((bcell dd4).1 _ _ (by omega)).trans k00, ((bcell dd4).1 _ _ (by omega)).trans k01, ((bcell dd4).1 _ _ s2).trans k10, ((bcell dd4).1 _ _ s2).trans k11⟩
                refine hK.out _ _ ?s58 (fun hHeld58 => ?_)
                case s58 => ((try dsimp only); (first | exact hS | exact ⟨k00, k01, k10, k11⟩ | assumption | (first | go_keep | (obtain ⟨hq, _⟩ := bcell ‹Below _ _ _›; (repeat' apply And.intro) <;> (rw [hq _ _ (by first | assumption | omega | (simp; done) | (simp; omega) | (simp; assumption))] <;> (first | assumption | (simp [*]; done)))))))
                clear hK K hHeld
                have hHeld := hHeld58; clear hHeld58
                try simp only [Act.put, List.setIfInBounds_toArray, List.set_cons_zero, List.set_cons_succ]
                have x0 := hz4.cellAt 0 _ rfl; have x1 : ((v3.alloc (.cells #[.int .i64 0, .slice none 0 0] 28)).setCell ⟨v3.heap.size, 0, none⟩ (.int .i64 N)).cell? ⟨v3.heap.size, 1, none⟩ = some (.slice none 0 0) := (sc_other (by simp)).trans (hz4.cellAt 1 _ rfl); have f0 := hz4.frozen 0; have f1 := hz4.frozen 1
                refine wpAnyH_ready (rs := [11]) (by kernel_rfl) (by simp) ?_
                refine AllReadyH.cons rfl (fun K hK => ?_) AllReadyH.nil
                go_simp
                have hZ : Blk (v3.alloc (.cells #[.int .i64 N, .slice A3 M0 c3] 28)) v3.heap.size 28 #[.int .i64 N, .slice A3 M0 c3] := Blk.new v3 _ _
                have cU : Below w20.heap.size w20 (v3.alloc (.cells #[.int .i64 N, .slice A3 M0 c3] 28)) := dd3.alloc dd3.size _
                have hR : RdE (v3.alloc (.cells #[.int .i64 N, .slice A3 M0 c3] 28)) A3 rs := hF.rd.below (Below.alloc (Below.refl _ _) (Nat.le_refl _) _)
                clear hS
                have hS : (v3.alloc (.cells #[.int .i64 N, .slice A3 M0 c3] 28)).cell? ⟨w.heap.size, 0, none⟩ = some (.int .i64 n) ∧ (v3.alloc (.cells #[.int .i64 N, .slice A3 M0 c3] 28)).cell? ⟨w.heap.size, 1, none⟩ = some (.slice A L c) ∧ (v3.alloc (.cells #[.int .i64 N, .slice A3 M0 c3] 28)).cell? ⟨w.heap.size + 1, 0, none⟩ = some (.int .i64 m) ∧ (v3.alloc (.cells #[.int .i64 N, .slice A3 M0 c3] 28)).cell? ⟨w.heap.size + 1, 1, none⟩ = some (.slice B M d) := ⟨((bcell cU).1 _ _ (by omega)).trans k00, ((bcell cU).1 _ _ (by omega)).trans k01, ((bcell cU).1 _ _ s2).trans k10, ((bcell cU).1 _ _ s2).trans k11⟩
                refine hK.out _ _ ?s59 (fun hHeld59 => ?_)
                case s59 => ((try dsimp only); (first | exact hS | exact ⟨k00, k01, k10, k11⟩ | assumption | (first | go_keep | (obtain ⟨hq, _⟩ := bcell ‹Below _ _ _›; (repeat' apply And.intro) <;> (rw [hq _ _ (by first | assumption | omega | (simp; done) | (simp; omega) | (simp; assumption))] <;> (first | assumption | (simp [*]; done)))))))
                clear hK K hHeld
                have hHeld := hHeld59; clear hHeld59
                try simp only [Act.put, List.setIfInBounds_toArray, List.set_cons_zero, List.set_cons_succ]
                have HU : Hid _ := hZ
                refine wpAnyH_take_d (i := 12) (d := some 20) (v := ?v60) rfl rfl (by kernel_rfl) (by kernel_rfl) (by kernel_rfl) (fun _ _ _ h => h) (Or.inl ⟨by kernel_rfl, ?y60⟩) (by assumption) ?_
                case y60 => (intro w' hSw; (try dsimp only at hSw); go_simp; try with_reducible rfl)
                try simp only [Act.put, List.setIfInBounds_toArray, List.set_cons_zero, List.set_cons_succ]
                refine wpAnyH_done (by kernel_rfl) ?_ _
                refine NoPanic.normal ?_
                (try go_wp2_with fail)
                go_meet
                exact ⟨_, A3, c3, rfl, rfl, Lib.hid hZ, Lib.hid hR, Lib.hid cU⟩
              · go_simp
                have dd3 : Below w20.heap.size w20 (v2.alloc (.cells #[.int .i64 0, .slice none 0 0] 28)) := dd2.alloc dd2.size _
                have hz3 : Blk (v2.alloc (.cells #[.int .i64 0, .slice none 0 0] 28)) v2.heap.size 28 #[.int .i64 0, .slice none 0 0] := Blk.new v2 _ _
                have e31 := e21.alloc (.cells #[.int .i64 0, .slice none 0 0] 28)
                have e32 := hE2.alloc (.cells #[.int .i64 0, .slice none 0 0] 28)
                have hS : (v2.alloc (.cells #[.int .i64 0, .slice none 0 0] 28)).cell? ⟨w.heap.size, 0, none⟩ = some (.int .i64 n) ∧ (v2.alloc (.cells #[.int .i64 0, .slice none 0 0] 28)).cell? ⟨w.heap.size, 1, none⟩ = some (.slice A L c) ∧ (v2.alloc (.cells #[.int .i64 0, .slice none 0 0] 28)).cell? ⟨w.heap.size + 1, 0, none⟩ = some (.int .i64 m) ∧ (v2.alloc (.cells #[.int .i64 0, .slice none 0 0] 28)).cell? ⟨w.heap.size + 1, 1, none⟩ = some (.slice B M d) := ⟨((bcell dd3).1 _ _ (by omega)).trans k00, ((bcell dd3).1 _ _ (by omega)).trans k01, ((bcell dd3).1 _ _ s2).trans k10, ((bcell dd3).1 _ _ s2).trans k11⟩
                refine hK.out _ _ ?s61 (fun hHeld61 => ?_)
                case s61 => ((try dsimp only); (first | exact hS | exact ⟨k00, k01, k10, k11⟩ | assumption | (first | go_keep | (obtain ⟨hq, _⟩ := bcell ‹Below _ _ _›; (repeat' apply And.intro) <;> (rw [hq _ _ (by first | assumption | omega | (simp; done) | (simp; omega) | (simp; assumption))] <;> (first | assumption | (simp [*]; done)))))))
                clear hK K hHeld
                have hHeld := hHeld61; clear hHeld61
                try simp only [Act.put, List.setIfInBounds_toArray, List.set_cons_zero, List.set_cons_succ]
                refine wpAnyH_ready (rs := [6]) (by kernel_rfl) (by simp) ?_
                refine AllReadyH.cons rfl (fun K hK => ?_) AllReadyH.nil
                go_simp
                refine (ci.out (v2.alloc (.cells #[.int .i64 0, .slice none 0 0] 28)) g1 g2 e31 e32).mono ?_
                rintro xx v4 ⟨hq, hb4⟩
                obtain ⟨A3, c3, rfl, hF⟩ := hq.open_ HM0.out
                have dd4 : Below w20.heap.size w20 v4 := dd3.trans (hb4.mono dd3.size)
                have hlz := hz3.lt
                have hz4 := hz3.below hb4 hz3.lt
                have hS : v4.cell? ⟨w.heap.size, 0, none⟩ = some (.int .i64 n) ∧ v4.cell? ⟨w.heap.size, 1, none⟩ = some (.slice A L c) ∧ v4.cell? ⟨w.heap.size + 1, 0, none⟩ = some (.int .i64 m) ∧ v4.cell? ⟨w.heap.size + 1, 1, none⟩ = some (.slice B M d) := ⟨((bcell dd4).1 _ _ (by omega)).trans k00, ((bcell dd4).1 _ _ (by omega)).trans k01, ((bcell dd4).1 _ _ s2).trans k10, ((bcell dd4).1 _ _ s2).trans k11⟩
                refine hK.out _ _ ?s62 (fun hHeld62 => ?_)
                case s62 => ((try dsimp only); (first | exact hS | exact ⟨k00, k01, k10, k11⟩ | assumption | (first | go_keep | (obtain ⟨hq, _⟩ := bcell ‹Below _ _ _›; (repeat' apply And.intro) <;> (rw [hq _ _ (by first | assumption | omega | (simp; done) | (simp; omega) | (simp; assumption))] <;> (first | assumption | (simp [*]; done)))))))
                clear hK K hHeld
                have hHeld := hHeld62; clear hHeld62
                try simp only [Act.put, List.setIfInBounds_toArray, List.set_cons_zero, List.set_cons_succ]
                refine wpAnyH_take_d (i := 7) (d := some 102) (v := ?v63) rfl rfl (by kernel_rfl) (by kernel_rfl) (by kernel_rfl) (fun _ _ _ h => h) (Or.inl ⟨by kernel_rfl, ?y63⟩) (by assumption) ?_
                case y63 => (intro w' hSw; (try dsimp only at hSw); go_simp; try with_reducible rfl)
                try simp only [Act.put, List.setIfInBounds_toArray, List.set_cons_zero, List.set_cons_succ]
                refine wpAnyH_take_d (i := 8) (d := some 110) (v := ?v64) rfl rfl (by kernel_rfl) (by kernel_rfl) (by kernel_rfl) (fun _ _ _ h => h) (Or.inl ⟨by kernel_rfl, ?y64⟩) (by assumption) ?_
                case y64 => (intro w' hSw; (try dsimp only at hSw); go_simp; try with_reducible rfl)
                try simp only [Act.put, List.setIfInBounds_toArray, List.set_cons_zero, List.set_cons_succ]
                refine wpAnyH_take_d (i := 9) (d := some 111) (v := ?v65) rfl rfl (by kernel_rfl) (by kernel_rfl) (by kernel_rfl) (fun _ _ _ h => h) (Or.inl ⟨by kernel_rfl, ?y65⟩) (by assumption) ?_
                case y65 => (intro w' hSw; (try dsimp only at hSw); go_simp; try with_reducible rfl)
                try simp only [Act.put, List.setIfInBounds_toArray, List.set_cons_zero, List.set_cons_succ]
                have x0 := hz4.cellAt 0 _ rfl; have x1 : (v4.setCell ⟨v2.heap.size, 0, none⟩ (.int .i64 N)).cell? ⟨v2.heap.size, 1, none⟩ = some (.slice none 0 0) := (sc_other (by simp)).trans (hz4.cellAt 1 _ rfl); have f0 := hz4.frozen 0; have f1 := hz4.frozen 1
                refine wpAnyH_ready (rs := [11]) (by kernel_rfl) (by simp) ?_
                refine AllReadyH.cons rfl (fun K hK => ?_) AllReadyH.nil
                go_simp
                have hZ : Blk ((v4.setCell ⟨v2.heap.size, 0, none⟩ (.int .i64 N)).setCell ⟨v2.heap.size, 1, none⟩ (.slice A3 M0 c3)) v2.heap.size 28 #[.int .i64 N, .slice A3 M0 c3] := (hz4.set_ 0 (.int .i64 N)).set_ 1 (.slice A3 M0 c3)
                have cU : Below w20.heap.size w20 ((v4.setCell ⟨v2.heap.size, 0, none⟩ (.int .i64 N)).setCell ⟨v2.heap.size, 1, none⟩ (.slice A3 M0 c3)) := (dd4.setCell (by show w20.heap.size ≤ v2.heap.size; have := b0.size; have hh := dd4.size; (try simp at this); (try simp at hh); first | exact Nat.le_refl _ | omega | exact dd1.size | exact dd2.size | exact dd3.size) _).setCell (by show w20.heap.size ≤ v2.heap.size; have := b0.size; have hh := dd4.size; (try simp at this); (try simp at hh); first | exact Nat.le_refl _ | omega | exact dd1.size | exact dd2.size | exact dd3.size) _
                have hR : RdE ((v4.setCell ⟨v2.heap.size, 0, none⟩ (.int .i64 N)).setCell ⟨v2.heap.size, 1, none⟩ (.slice A3 M0 c3)) A3 rs := (hF.away (((Only.refl _ _).set 0 _).set 1 _ : Only (some ⟨v2.heap.size, 0, none⟩) v4 _) hlz).rd
                clear hS
                have hS : ((v4.setCell ⟨v2.heap.size, 0, none⟩ (.int .i64 N)).setCell ⟨v2.heap.size, 1, none⟩ (.slice A3 M0 c3)).cell? ⟨w.heap.size, 0, none⟩ = some (.int .i64 n) ∧ ((v4.setCell ⟨v2.heap.size, 0, none⟩ (.int .i64 N)).setCell ⟨v2.heap.size, 1, none⟩ (.slice A3 M0 c3)).cell? ⟨w.heap.size, 1, none⟩ = some (.slice A L c) ∧ ((v4.setCell ⟨v2.heap.size, 0, none⟩ (.int .i64 N)).setCell ⟨v2.heap.size, 1, none⟩ (.slice A3 M0 c3)).cell? ⟨w.heap.size + 1, 0, none⟩ = some (.int .i64 m) ∧ ((v4.setCell ⟨v2.heap.size, 0, none⟩ (.int .i64 N)).setCell ⟨v2.heap.size, 1, none⟩ (.slice A3 M0 c3)).cell? ⟨w.heap.size + 1, 1, none⟩ = some (.slice B M d) := ⟨((bcell cU).1 _ _ (by omega)).trans k00, ((bcell cU).1 _ _ (by omega)).trans k01, ((bcell cU).1 _ _ s2).trans k10, ((bcell cU).1 _ _ s2).trans k11⟩
                refine hK.out _ _ ?s66 (fun hHeld66 => ?_)
                case s66 => ((try dsimp only); (first | exact hS | exact ⟨k00, k01, k10, k11⟩ | assumption | (first | go_keep | (obtain ⟨hq, _⟩ := bcell ‹Below _ _ _›; (repeat' apply And.intro) <;> (rw [hq _ _ (by first | assumption | omega | (simp; done) | (simp; omega) | (simp; assumption))] <;> (first | assumption | (simp [*]; done)))))))
                clear hK K hHeld
                have hHeld := hHeld66; clear hHeld66
                try simp only [Act.put, List.setIfInBounds_toArray, List.set_cons_zero, List.set_cons_succ]
                have HU : Hid _ := hZ
                refine wpAnyH_take_d (i := 12) (d := some 20) (v := ?v67) rfl rfl (by kernel_rfl) (by kernel_rfl) (by kernel_rfl) (fun _ _ _ h => h) (Or.inl ⟨by kernel_rfl, ?y67⟩) (by assumption) ?_
                case y67 => (intro w' hSw; (try dsimp only at hSw); go_simp; try with_reducible rfl)
                try simp only [Act.put, List.setIfInBounds_toArray, List.set_cons_zero, List.set_cons_succ]
                refine wpAnyH_done (by kernel_rfl) ?_ _
                refine NoPanic.normal ?_
                (try go_wp2_with fail)
                go_meet
                exact ⟨_, A3, c3, rfl, rfl, Lib.hid hZ, Lib.hid hR, Lib.hid cU⟩
            · go_simp
              have dd2 : Below w20.heap.size w20 (v1.alloc (.cells #[.int .i64 0, .slice none 0 0] 28)) := dd1.alloc dd1.size _
              have hz2 : Blk (v1.alloc (.cells #[.int .i64 0, .slice none 0 0] 28)) v1.heap.size 28 #[.int .i64 0, .slice none 0 0] := Blk.new v1 _ _
              have e21 := hE1.alloc (.cells #[.int .i64 0, .slice none 0 0] 28)
              have hS : (v1.alloc (.cells #[.int .i64 0, .slice none 0 0] 28)).cell? ⟨w.heap.size, 0, none⟩ = some (.int .i64 n) ∧ (v1.alloc (.cells #[.int .i64 0, .slice none 0 0] 28)).cell? ⟨w.heap.size, 1, none⟩ = some (.slice A L c) ∧ (v1.alloc (.cells #[.int .i64 0, .slice none 0 0] 28)).cell? ⟨w.heap.size + 1, 0, none⟩ = some (.int .i64 m) ∧ (v1.alloc (.cells #[.int .i64 0, .slice none 0 0] 28)).cell? ⟨w.heap.size + 1, 1, none⟩ = some (.slice B M d) := ⟨((bcell dd2).1 _ _ (by omega)).trans k00, ((bcell dd2).1 _ _ (by omega)).trans k01, ((bcell dd2).1 _ _ s2).trans k10, ((bcell dd2).1 _ _ s2).trans k11⟩
              refine hK.out _ _ ?s68 (fun hHeld68 => ?_)
              case s68 => ((try dsimp only); (first | exact hS | exact ⟨k00, k01, k10, k11⟩ | assumption | (first | go_keep | (obtain ⟨hq, _⟩ := bcell ‹Below _ _ _›; (repeat' apply And.intro) <;> (rw [hq _ _ (by first | assumption | omega | (simp; done) | (simp; omega) | (simp; assumption))] <;> (first | assumption | (simp [*]; done)))))))
              clear hK K hHeld
              have hHeld := hHeld68; clear hHeld68
              try simp only [Act.put, List.setIfInBounds_toArray, List.set_cons_zero, List.set_cons_succ]
              refine wpAnyH_ready (rs := [4]) (by kernel_rfl) (by simp) ?_
              refine AllReadyH.cons rfl (fun K hK => ?_) AllReadyH.nil
              go_simp
              refine (ct2.out _ (B20.trans (dd2.mono B20.size))).mono ?_
              rintro xx v3 ⟨g2, rfl, hg2, hE2, hb3⟩
              have dd3 : Below w20.heap.size w20 v3 := dd2.trans (hb3.mono dd2.size)
              have e31 := e21.below hb3 e21.lt
              have hz3 := hz2.below hb3 hz2.lt
              have hS : v3.cell? ⟨w.heap.size, 0, none⟩ = some (.int .i64 n) ∧ v3.cell? ⟨w.heap.size, 1, none⟩ = some (.slice A L c) ∧ v3.cell? ⟨w.heap.size + 1, 0, none⟩ = some (.int .i64 m) ∧ v3.cell? ⟨w.heap.size + 1, 1, none⟩ = some (.slice B M d) := ⟨((bcell dd3).1 _ _ (by omega)).trans k00, ((bcell dd3).1 _ _ (by omega)).trans k01, ((bcell dd3).1 _ _ s2).trans k10, ((bcell dd3).1 _ _ s2).trans k11⟩
              refine hK.out _ _ ?s69 (fun hHeld69 => ?_)
              case s69 => ((try dsimp only); (first | exact hS | exact ⟨k00, k01, k10, k11⟩ | assumption | (first | go_keep | (obtain ⟨hq, _⟩ := bcell ‹Below _ _ _›; (repeat' apply And.intro) <;> (rw [hq _ _ (by first | assumption | omega | (simp; done) | (simp; omega) | (simp; assumption))] <;> (first | assumption | (simp [*]; done)))))))
              clear hK K hHeld
              have hHeld := hHeld69; clear hHeld69
              try simp only [Act.put, List.setIfInBounds_toArray, List.set_cons_zero, List.set_cons_succ]
              refine wpAnyH_ready (rs := [6]) (by kernel_rfl) (by simp) ?_
              refine AllReadyH.cons rfl (fun K hK => ?_) AllReadyH.nil
              go_simp
              refine (ci.out v3 g1 g2 e31 hE2).mono ?_
              rintro xx v4 ⟨hq, hb4⟩
              obtain ⟨A3, c3, rfl, hF⟩ := hq.open_ HM0.out
              have dd4 : Below w20.heap.size w20 v4 := dd3.trans (hb4.mono dd3.size)
              have hlz := hz3.lt
              have hz4 := hz3.below hb4 hz3.lt
              have hS : v4.cell? ⟨w.heap.size, 0, none⟩ = some (.int .i64 n) ∧ v4.cell? ⟨w.heap.size, 1, none⟩ = some (.slice A L c) ∧ v4.cell? ⟨w.heap.size + 1, 0, none⟩ = some (.int .i64 m) ∧ v4.cell? ⟨w.heap.size + 1, 1, none⟩ = some (.slice B M d) := ⟨((bcell dd4).1 _ _ (by omega)).trans k00, ((bcell dd4).1 _ _ (by omega)).trans k01, ((bcell dd4).1 _ _ s2).trans k10, ((bcell dd4).1 _ _ s2).trans k11⟩
              refine hK.out _ _ ?s70 (fun hHeld70 => ?_)
              case s70 => ((try dsimp only); (first | exact hS | exact ⟨k00, k01, k10, k11⟩ | assumption | (first | go_keep | (obtain ⟨hq, _⟩ := bcell ‹Below _ _ _›; (repeat' apply And.intro) <;> (rw [hq _ _ (by first | assumption | omega | (simp; done) | (simp; omega) | (simp; assumption))] <;> (first | assumption | (simp [*]; done)))))))
              clear hK K hHeld
              have hHeld := hHeld70; clear hHeld70
              try simp only [Act.put, List.setIfInBounds_toArray, List.set_cons_zero, List.set_cons_succ]
              refine wpAnyH_take_d (i := 7) (d := some 102) (v := ?v71) rfl rfl (by kernel_rfl) (by kernel_rfl) (by kernel_rfl) (fun _ _ _ h => h) (Or.inl ⟨by kernel_rfl, ?y71⟩) (by assumption) ?_
              case y71 => (intro w' hSw; (try dsimp only at hSw); go_simp; try with_reducible rfl)
              try simp only [Act.put, List.setIfInBounds_toArray, List.set_cons_zero, List.set_cons_succ]
              refine wpAnyH_take_d (i := 8) (d := some 110) (v := ?v72) rfl rfl (by kernel_rfl) (by kernel_rfl) (by kernel_rfl) (fun _ _ _ h => h) (Or.inl ⟨by kernel_rfl, ?y72⟩) (by assumption) ?_
              case y72 => (intro w' hSw; (try dsimp only at hSw); go_simp; try with_reducible rfl)
              try simp only [Act.put, List.setIfInBounds_toArray, List.set_cons_zero, List.set_cons_succ]
              refine wpAnyH_take_d (i := 9) (d := some 111) (v := ?v73) rfl rfl (by kernel_rfl) (by kernel_rfl) (by kernel_rfl) (fun _ _ _ h => h) (Or.inl ⟨by kernel_rfl, ?y73⟩) (by assumption) ?_
              case y73 => (intro w' hSw; (try dsimp only at hSw); go_simp; try with_reducible rfl)
              try simp only [Act.put, List.setIfInBounds_toArray, List.set_cons_zero, List.set_cons_succ]
              have x0 := hz4.cellAt 0 _ rfl; have x1 : (v4.setCell ⟨v1.heap.size, 0, none⟩ (.int .i64 N)).cell? ⟨v1.heap.size, 1, none⟩ = some (.slice none 0 0) := (sc_other (by simp)).trans (hz4.cellAt 1 _ rfl); have f0 := hz4.frozen 0; have f1 := hz4.frozen 1
              refine wpAnyH_ready (rs := [11]) (by kernel_rfl) (by simp) ?_
              refine AllReadyH.cons rfl (fun K hK => ?_) AllReadyH.nil
              go_simp
              have hZ : Blk ((v4.setCell ⟨v1.heap.size, 0, none⟩ (.int .i64 N)).setCell ⟨v1.heap.size, 1, none⟩ (.slice A3 M0 c3)) v1.heap.size 28 #[.int .i64 N, .slice A3 M0 c3] := (hz4.set_ 0 (.int .i64 N)).set_ 1 (.slice A3 M0 c3)
              have cU : Below w20.heap.size w20 ((v4.setCell ⟨v1.heap.size, 0, none⟩ (.int .i64 N)).setCell ⟨v1.heap.size, 1, none⟩ (.slice A3 M0 c3)) := (dd4.setCell (by show w20.heap.size ≤ v1.heap.size; have := b0.size; have hh := dd4.size; (try simp at this); (try simp at hh); first | exact Nat.le_refl _ | omega | exact dd1.size | exact dd2.size | exact dd3.size) _).setCell (by show w20.heap.size ≤ v1.heap.size; have := b0.size; have hh := dd4.size; (try simp at this); (try simp at hh); first | exact Nat.le_refl _ | omega | exact dd1.size | exact dd2.size | exact dd3.size) _
              have hR : RdE ((v4.setCell ⟨v1.heap.size, 0, none⟩ (.int .i64 N)).setCell ⟨v1.heap.size, 1, none⟩ (.slice A3 M0 c3)) A3 rs := (hF.away (((Only.refl _ _).set 0 _).set 1 _ : Only (some ⟨v1.heap.size, 0, none⟩) v4 _) hlz).rd
              clear hS
              have hS : ((v4.setCell ⟨v1.heap.size, 0, none⟩ (.int .i64 N)).setCell ⟨v1.heap.size, 1, none⟩ (.slice A3 M0 c3)).cell? ⟨w.heap.size, 0, none⟩ = some (.int .i64 n) ∧ ((v4.setCell ⟨v1.heap.size, 0, none⟩ (.int .i64 N)).setCell ⟨v1.heap.size, 1, none⟩ (.slice A3 M0 c3)).cell? ⟨w.heap.size, 1, none⟩ = some (.slice A L c) ∧ ((v4.setCell ⟨v1.heap.size, 0, none⟩ (.int .i64 N)).setCell ⟨v1.heap.size, 1, none⟩ (.slice A3 M0 c3)).cell? ⟨w.heap.size + 1, 0, none⟩ = some (.int .i64 m) ∧ ((v4.setCell ⟨v1.heap.size, 0, none⟩ (.int .i64 N)).setCell ⟨v1.heap.size, 1, none⟩ (.slice A3 M0 c3)).cell? ⟨w.heap.size + 1, 1, none⟩ = some (.slice B M d) := ⟨((bcell cU).1 _ _ (by omega)).trans k00, ((bcell cU).1 _ _ (by omega)).trans k01, ((bcell cU).1 _ _ s2).trans k10, ((bcell cU).1 _ _ s2).trans k11⟩
              refine hK.out _ _ ?s74 (fun hHeld74 => ?_)
              case s74 => ((try dsimp only); (first | exact hS | exact ⟨k00, k01, k10, k11⟩ | assumption | (first | go_keep | (obtain ⟨hq, _⟩ := bcell ‹Below _ _ _›; (repeat' apply And.intro) <;> (rw [hq _ _ (by first | assumption | omega | (simp; done) | (simp; omega) | (simp; assumption))] <;> (first | assumption | (simp [*]; done)))))))
              clear hK K hHeld
              have hHeld := hHeld74; clear hHeld74
              try simp only [Act.put, List.setIfInBounds_toArray, List.set_cons_zero, List.set_cons_succ]
              have HU : Hid _ := hZ
              refine wpAnyH_take_d (i := 12) (d := some 20) (v := ?v75) rfl rfl (by kernel_rfl) (by kernel_rfl) (by kernel_rfl) (fun _ _ _ h => h) (Or.inl ⟨by kernel_rfl, ?y75⟩) (by assumption) ?_
              case y75 => (intro w' hSw; (try dsimp only at hSw); go_simp; try with_reducible rfl)
              try simp only [Act.put, List.setIfInBounds_toArray, List.set_cons_zero, List.set_cons_succ]
              refine wpAnyH_done (by kernel_rfl) ?_ _
              refine NoPanic.normal ?_
              (try go_wp2_with fail)
              go_meet
              exact ⟨_, A3, c3, rfl, rfl, Lib.hid hZ, Lib.hid hR, Lib.hid cU⟩
          · go_simp
            have dd1 : Below w20.heap.size w20 (w20.drew.alloc (.cells #[.int .i64 0, .slice none 0 0] 28)) := b0.alloc b0.size _
            have hz1 : Blk (w20.drew.alloc (.cells #[.int .i64 0, .slice none 0 0] 28)) w20.heap.size 28 #[.int .i64 0, .slice none 0 0] := Blk.new w20.drew _ _
            have hS : (w20.drew.alloc (.cells #[.int .i64 0, .slice none 0 0] 28)).cell? ⟨w.heap.size, 0, none⟩ = some (.int .i64 n) ∧ (w20.drew.alloc (.cells #[.int .i64 0, .slice none 0 0] 28)).cell? ⟨w.heap.size, 1, none⟩ = some (.slice A L c) ∧ (w20.drew.alloc (.cells #[.int .i64 0, .slice none 0 0] 28)).cell? ⟨w.heap.size + 1, 0, none⟩ = some (.int .i64 m) ∧ (w20.drew.alloc (.cells #[.int .i64 0, .slice none 0 0] 28)).cell? ⟨w.heap.size + 1, 1, none⟩ = some (.slice B M d) := ⟨((bcell dd1).1 _ _ (by omega)).trans k00, ((bcell dd1).1 _ _ (by omega)).trans k01, ((bcell dd1).1 _ _ s2).trans k10, ((bcell dd1).1 _ _ s2).trans k11⟩
            refine hK.out _ _ ?s76 (fun hHeld76 => ?_)
            case s76 => ((try dsimp only); (first | exact hS | exact ⟨k00, k01, k10, k11⟩ | assumption | (first | go_keep | (obtain ⟨hq, _⟩ := bcell ‹Below _ _ _›; (repeat' apply And.intro) <;> (rw [hq _ _ (by first | assumption | omega | (simp; done) | (simp; omega) | (simp; assumption))] <;> (first | assumption | (simp [*]; done)))))))
            clear hK K hHeld
            have hHeld := hHeld76; clear hHeld76
            try simp only [Act.put, List.setIfInBounds_toArray, List.set_cons_zero, List.set_cons_succ]
            refine wpAnyH_ready (rs := [1]) (by kernel_rfl) (by simp) ?_
            refine AllReadyH.cons rfl (fun K hK => ?_) AllReadyH.nil
            go_simp
            refine (ct1.out _ (B20.trans (dd1.mono B20.size))).mono ?_
            rintro xx v2 ⟨g1, rfl, hg1, hE1, hb2⟩
            have dd2 : Below w20.heap.size w20 v2 := dd1.trans (hb2.mono dd1.size)
            have hz2 := hz1.below hb2 hz1.lt
            have hS : v2.cell? ⟨w.heap.size, 0, none⟩ = some (.int .i64 n) ∧ v2.cell? ⟨w.heap.size, 1, none⟩ = some (.slice A L c) ∧ v2.cell? ⟨w.heap.size + 1, 0, none⟩ = some (.int .i64 m) ∧ v2.cell? ⟨w.heap.size + 1, 1, none⟩ = some (.slice B M d) := ⟨((bcell dd2).1 _ _ (by omega)).trans k00, ((bcell dd2).1 _ _ (by omega)).trans k01, ((bcell dd2).1 _ _ s2).trans k10, ((bcell dd2).1 _ _ s2).trans k11⟩
            refine hK.out _ _ ?s77 (fun hHeld77 => ?_)
            case s77 => ((try dsimp only); (first | exact hS | exact ⟨k00, k01, k10, k11⟩ | assumption | (first | go_keep | (obtain ⟨hq, _⟩ := bcell ‹Below _ _ _›; (repeat' apply And.intro) <;> (rw [hq _ _ (by first | assumption | omega | (simp; done) | (simp; omega) | (simp; assumption))] <;> (first | assumption | (simp [*]; done)))))))
            clear hK K hHeld
            have hHeld := hHeld77; clear hHeld77
            try simp only [Act.put, List.setIfInBounds_toArray, List.set_cons_zero, List.set_cons_succ]
            refine wpAnyH_ready (rs := [4]) (by kernel_rfl) (by simp) ?_
            refine AllReadyH.cons rfl (fun K hK => ?_) AllReadyH.nil
            go_simp
            refine (ct2.out _ (B20.trans (dd2.mono B20.size))).mono ?_
            rintro xx v3 ⟨g2, rfl, hg2, hE2, hb3⟩
            have dd3 : Below w20.heap.size w20 v3 := dd2.trans (hb3.mono dd2.size)
            have e31 := hE1.below hb3 hE1.lt
            have hz3 := hz2.below hb3 hz2.lt
            have hS : v3.cell? ⟨w.heap.size, 0, none⟩ = some (.int .i64 n) ∧ v3.cell? ⟨w.heap.size, 1, none⟩ = some (.slice A L c) ∧ v3.cell? ⟨w.heap.size + 1, 0, none⟩ = some (.int .i64 m) ∧ v3.cell? ⟨w.heap.size + 1, 1, none⟩ = some (.slice B M d) := ⟨((bcell dd3).1 _ _ (by omega)).trans k00, ((bcell dd3).1 _ _ (by omega)).trans k01, ((bcell dd3).1 _ _ s2).trans k10, ((bcell dd3).1 _ _ s2).trans k11⟩
            refine hK.out _ _ ?s78 (fun hHeld78 => ?_)
            case s78 => ((try dsimp only); (first | exact hS | exact ⟨k00, k01, k10, k11⟩ | assumption | (first | go_keep | (obtain ⟨hq, _⟩ := bcell ‹Below _ _ _›; (repeat' apply And.intro) <;> (rw [hq _ _ (by first | assumption | omega | (simp; done) | (simp; omega) | (simp; assumption))] <;> (first | assumption | (simp [*]; done)))))))
            clear hK K hHeld
            have hHeld := hHeld78; clear hHeld78
            try simp only [Act.put, List.setIfInBounds_toArray, List.set_cons_zero, List.set_cons_succ]
            refine wpAnyH_ready (rs := [6]) (by kernel_rfl) (by simp) ?_
            refine AllReadyH.cons rfl (fun K hK => ?_) AllReadyH.nil
            go_simp
            refine (ci.out v3 g1 g2 e31 hE2).mono ?_
            rintro xx v4 ⟨hq, hb4⟩
            obtain ⟨A3, c3, rfl, hF⟩ := hq.open_ HM0.out
            have dd4 : Below w20.heap.size w20 v4 := dd3.trans (hb4.mono dd3.size)
            have hlz := hz3.lt
            have hz4 := hz3.below hb4 hz3.lt
            have hS : v4.cell? ⟨w.heap.size, 0, none⟩ = some (.int .i64 n) ∧ v4.cell? ⟨w.heap.size, 1, none⟩ = some (.slice A L c) ∧ v4.cell? ⟨w.heap.size + 1, 0, none⟩ = some (.int .i64 m) ∧ v4.cell? ⟨w.heap.size + 1, 1, none⟩ = some (.slice B M d) := ⟨((bcell dd4).1 _ _ (by omega)).trans k00, ((bcell dd4).1 _ _ (by omega)).trans k01, ((bcell dd4).1 _ _ s2).trans k10, ((bcell dd4).1 _ _ s2).trans k11⟩
            refine hK.out _ _ ?s79 (fun hHeld79 => ?_)
            case s79 => ((try dsimp only); (first | exact hS | exact ⟨k00, k01, k10, k11⟩ | assumption | (first | go_keep | (obtain ⟨hq, _⟩ := bcell ‹Below _ _ _›; (repeat' apply And.intro) <;> (rw [hq _ _ (by first | assumption | omega | (simp; done) | (simp; omega) | (simp; assumption))] <;> (first | assumption | (simp [*]; done)))))))
            clear hK K hHeld
            have hHeld := hHeld79; clear hHeld79
            try simp only [Act.put, List.setIfInBounds_toArray, List.set_cons_zero, List.set_cons_succ]
            refine wpAnyH_take_d (i := 7) (d := some 102) (v := ?v80) rfl rfl (by kernel_rfl) (by kernel_rfl) (by kernel_rfl) (fun _ _ _ h => h) (Or.inl ⟨by kernel_rfl, ?y80⟩) (by assumption) ?_
            case y80 => (intro w' hSw; (try dsimp only at hSw); go_simp; try with_reducible rfl)
            try simp only [Act.put, List.setIfInBounds_toArray, List.set_cons_zero, List.set_cons_succ]
            refine wpAnyH_take_d (i := 8) (d := some 110) (v := ?v81) rfl rfl (by kernel_rfl) (by kernel_rfl) (by kernel_rfl) (fun _ _ _ h => h) (Or.inl ⟨by kernel_rfl, ?y81⟩) (by assumption) ?_
            case y81 => (intro w' hSw; (try dsimp only at hSw); go_simp; try with_reducible rfl)
            try simp only [Act.put, List.setIfInBounds_toArray, List.set_cons_zero, List.set_cons_succ]
            refine wpAnyH_take_d (i := 9) (d := some 111) (v := ?v82) rfl rfl (by kernel_rfl) (by kernel_rfl) (by kernel_rfl) (fun _ _ _ h => h) (Or.inl ⟨by kernel_rfl, ?y82⟩) (by assumption) ?_
            case y82 => (intro w' hSw; (try dsimp only at hSw); go_simp; try with_reducible rfl)
            try simp only [Act.put, List.setIfInBounds_toArray, List.set_cons_zero, List.set_cons_succ]
            have x0 := hz4.cellAt 0 _ rfl; have x1 : (v4.setCell ⟨w20.heap.size, 0, none⟩ (.int .i64 N)).cell? ⟨w20.heap.size, 1, none⟩ = some (.slice none 0 0) := (sc_other (by simp)).trans (hz4.cellAt 1 _ rfl); have f0 := hz4.frozen 0; have f1 := hz4.frozen 1
            refine wpAnyH_ready (rs := [11]) (by kernel_rfl) (by simp) ?_
            refine AllReadyH.cons rfl (fun K hK => ?_) AllReadyH.nil
            go_simp
            have hZ : Blk ((v4.setCell ⟨w20.heap.size, 0, none⟩ (.int .i64 N)).setCell ⟨w20.heap.size, 1, none⟩ (.slice A3 M0 c3)) w20.heap.size 28 #[.int .i64 N, .slice A3 M0 c3] := (hz4.set_ 0 (.int .i64 N)).set_ 1 (.slice A3 M0 c3)
            have cU : Below w20.heap.size w20 ((v4.setCell ⟨w20.heap.size, 0, none⟩ (.int .i64 N)).setCell ⟨w20.heap.size, 1, none⟩ (.slice A3 M0 c3)) := (dd4.setCell (by show w20.heap.size ≤ w20.heap.size; have := b0.size; have hh := dd4.size; (try simp at this); (try simp at hh); first | exact Nat.le_refl _ | omega | exact dd1.size | exact dd2.size | exact dd3.size) _).setCell (by show w20.heap.size ≤ w20.heap.size; have := b0.size; have hh := dd4.size; (try simp at this); (try simp at hh); first | exact Nat.le_refl _ | omega | exact dd1.size | exact dd2.size | exact dd3.size) _
            have hR : RdE ((v4.setCell ⟨w20.heap.size, 0, none⟩ (.int .i64 N)).setCell ⟨w20.heap.size, 1, none⟩ (.slice A3 M0 c3)) A3 rs := (hF.away (((Only.refl _ _).set 0 _).set 1 _ : Only (some ⟨w20.heap.size, 0, none⟩) v4 _) hlz).rd
            clear hS
            have hS : ((v4.setCell ⟨w20.heap.size, 0, none⟩ (.int .i64 N)).setCell ⟨w20.heap.size, 1, none⟩ (.slice A3 M0 c3)).cell? ⟨w.heap.size, 0, none⟩ = some (.int .i64 n) ∧ ((v4.setCell ⟨w20.heap.size, 0, none⟩ (.int .i64 N)).setCell ⟨w20.heap.size, 1, none⟩ (.slice A3 M0 c3)).cell? ⟨w.heap.size, 1, none⟩ = some (.slice A L c) ∧ ((v4.setCell ⟨w20.heap.size, 0, none⟩ (.int .i64 N)).setCell ⟨w20.heap.size, 1, none⟩ (.slice A3 M0 c3)).cell? ⟨w.heap.size + 1, 0, none⟩ = some (.int .i64 m) ∧ ((v4.setCell ⟨w20.heap.size, 0, none⟩ (.int .i64 N)).setCell ⟨w20.heap.size, 1, none⟩ (.slice A3 M0 c3)).cell? ⟨w.heap.size + 1, 1, none⟩ = some (.slice B M d) := ⟨((bcell cU).1 _ _ (by omega)).trans k00, ((bcell cU).1 _ _ (by omega)).trans k01, ((bcell cU).1 _ _ s2).trans k10, ((bcell cU).1 _ _ s2).trans k11⟩
            refine hK.out _ _ ?s83 (fun hHeld83 => ?_)
            case s83 => ((try dsimp only); (first | exact hS | exact ⟨k00, k01, k10, k11⟩ | assumption | (first | go_keep | (obtain ⟨hq, _⟩ := bcell ‹Below _ _ _›; (repeat' apply And.intro) <;> (rw [hq _ _ (by first | assumption | omega | (simp; done) | (simp; omega) | (simp; assumption))] <;> (first | assumption | (simp [*]; done)))))))
            clear hK K hHeld
            have hHeld := hHeld83; clear hHeld83
            try simp only [Act.put, List.setIfInBounds_toArray, List.set_cons_zero, List.set_cons_succ]
            have HU : Hid _ := hZ
            refine wpAnyH_take_d (i := 12) (d := some 20) (v := ?v84) rfl rfl (by kernel_rfl) (by kernel_rfl) (by kernel_rfl) (fun _ _ _ h => h) (Or.inl ⟨by kernel_rfl, ?y84⟩) (by assumption) ?_
            case y84 => (intro w' hSw; (try dsimp only at hSw); go_simp; try with_reducible rfl)
            try simp only [Act.put, List.setIfInBounds_toArray, List.set_cons_zero, List.set_cons_succ]
            refine wpAnyH_done (by kernel_rfl) ?_ _
            refine NoPanic.normal ?_
            (try go_wp2_with fail)
            go_meet
            exact ⟨_, A3, c3, rfl, rfl, Lib.hid hZ, Lib.hid hR, Lib.hid cU⟩
        case rest =>
          obtain ⟨gY, A6, c6, rfl, rfl, X1, W1, Hu1⟩ := hcut
          obtain ⟨u21, hu21⟩ : ∃ u, u = wc := ⟨_, rfl⟩
          subst hu21
          have D21 : Hid (Below u3.heap.size u3 u21) := D20.out.trans (Hu1.out.mono D20.out.size)
          have FR21 := Lib.hid (FR20.out.below Hu1.out)
          have G21 : Hid (Blk u21 w10.heap.size 28 #[.int .i64 N, .slice A5 M0 c5]) := G20.out.below Hu1.out G20.out.lt
          have x50 := X1.out.cellAt 0 _ rfl
          have x51 := X1.out.cellAt 1 _ rfl
          have y50 := (X0.out.below D21.out X0.out.lt).cellAt 0 _ rfl
          have y51 := (X0.out.below D21.out X0.out.lt).cellAt 1 _ rfl
          clear k00 k01 k10 k11 KG20 KH20 B20 s2 Hu1 D20 FR20 G20
          go_wp2_with fail
          refine (cq.out _ _ _ _ _ W1.out (W0.out.below D21.out)).mono ?_
          rintro x w22 ⟨rfl, hb22⟩
          have D22 : Hid (Below u3.heap.size u3 w22) := D21.out.trans (hb22.mono D21.out.size)
          have FR22 := Lib.hid (FR21.out.below hb22)
          have G22 : Hid (Blk w22 w10.heap.size 28 #[.int .i64 N, .slice A5 M0 c5]) := G21.out.below hb22 G21.out.lt
          have x60 := G22.out.cellAt 0 _ rfl
          have x61 := G22.out.cellAt 1 _ rfl
          clear hb22 D21 FR21 G21 x50 x51 y50 y51 X1 W1
          go_wp2_with fail
          refine (ch.out _ _ _ FR22.out.rd).mono ?_
          rintro x w23 ⟨rfl, hb23⟩
          have D23 : Below u3.heap.size u3 w23 := D22.out.trans (hb23.mono D22.out.size)
          clear hb23 D22 FR22 G22 x60 x61
          go_wp2
          go_ret
          exact ⟨rfl, B3.out.trans (D23.mono B3.out.size)⟩

    · have hk2 : k2 < 0 := by have := Hk2.out; rw [if_neg h2] at this; omega
      clear hr hr2 Hk1 Hk2 hk1' h2 h1 hl hl2
      generalize es.length = L at *
      generalize hs.length = M at *
      go_enter Try.func3, Try.ntmps3
      go_wp2_with fail
      refine (cs.out _).mono ?_
      rintro x w1 ⟨rfl, hb1⟩
      have KH1 := Lib.hid (((Blk.new' (n := w.heap.size + 1) _ (by simp)).below hb1 (by simp)) : Blk w1 (w.heap.size + 1) 24 #[.int .i64 m, .slice B M d])
      have Hb1 : Hid (Below w.heap.size w w1) := by show Below _ _ _; exact Below.trans (b := ((w.alloc (.cells #[.int .i64 n, .slice A L c] 24)).alloc (.cells #[.int .i64 m, .slice B M d] 24))) (by (repeat' (first | (with_reducible exact Below.refl _ _) | (with_reducible assumption) | (with_reducible refine Below.alloc ?_ ?_ _) | (with_reducible refine Below.drew ?_) | (with_reducible refine below_drewN ?_ _) | (with_reducible refine Below.setCell ?_ ?_ _) | (with_reducible refine Below.trans ?_ (Below.mono (by assumption) ?_)) | (first | omega | (simp only [World.size_alloc, World.size_setCell, World.size_drew]; omega) | (simp; omega) | (simp; done))))) (hb1.mono (by simp; omega))
      have k10 := KH1.out.cellAt 0 _ rfl
      have k11 := KH1.out.cellAt 1 _ rfl
      clear hb1
      go_wp2_with fail
      refine (cs2.out _).mono ?_
      rintro x w2 ⟨rfl, hb2⟩
      go_wp2
      go_ret
      exact ⟨rfl, Hb1.out.trans (hb2.mono Hb1.out.size)⟩
  · have hk1 : k1 < 0 := by have := Hk1.out; rw [if_neg (by omega)] at this; omega
    clear hr hr2 Hk1 h1 hl hl2
    generalize es.length = L at *
    generalize hs.length = M at *
    go_enter Try.func3, Try.ntmps3
    go_wp2_with fail
    refine (cs.out _).mono ?_
    rintro x w1 ⟨rfl, hb1⟩
    go_wp2
    go_ret
    exact ⟨rfl, Below.trans (b := ((w.alloc (.cells #[.int .i64 n, .slice A L c] 24)).alloc (.cells #[.int .i64 m, .slice B M d] 24))) (by (repeat' (first | (with_reducible exact Below.refl _ _) | (with_reducible assumption) | (with_reducible refine Below.alloc ?_ ?_ _) | (with_reducible refine Below.drew ?_) | (with_reducible refine below_drewN ?_ _) | (with_reducible refine Below.setCell ?_ ?_ _) | (with_reducible refine Below.trans ?_ (Below.mono (by assumption) ?_)) | (first | omega | (simp only [World.size_alloc, World.size_setCell, World.size_drew]; omega) | (simp; omega) | (simp; done))))) (hb1.mono (by simp; omega))⟩
end Go.Proofs.Ytjgmoffkecnmcaa
namespace Go.Proofs.Ytjgmoffkecnmcaa.Star
open Go.ChangeShapes Go.WideShapes Go.ChangeAt Go.RowKit Go.Proofs.Ytjgmoffkecnmcaa
set_option linter.unusedVariables false

theorem own : ownKnob Try.prog.godebug = none := by kernel_rfl

set_option maxRecDepth 100000 in
theorem lifted (os : Os) (started : os.Started) (H : Type) (enc : TypeId × Value → H) :
    ReturnsInHanded {} Try.checked os 3 .any (Rows.fnExactStarProductSpec.pre6 enc Try.prog Try.f3 Rows.fnExactStarProductRow.domain false) (Rows.fnExactStarProductSpec.post enc Try.prog Try.f3 false true false false) := by
  refine returnsInHanded_of_change (C := Try.checked) own started (by kernel_rfl) Try.func3
    (ChangeSpec.witness6 (enc := enc) (C := Try.checked) false ⟨#[], #[.agg #[.int .i64 0, .slice none 0 0], .int .i64 0, .agg #[.int .i64 0, .slice none 0 0], .int .i64 0], []⟩ 8 (by kernel_rfl) (by kernel_rfl) (by kernel_rfl) (by kernel_rfl)) ?_
  intro W base args ds gs before hval0 hW hcnd _
  have hval : ∀ (j : Nat) t v, Try.f3.params[j]? = some t → args[j]? = some v → Value.okWide Try.prog W .any base t v := hval0
  have hW' := hW
  obtain ⟨p, q, hA0, hV, rfl, hfz, hnd⟩ := hW
  have hA : DataW.TrodAll enc Try.prog W 0 (fun _ => true) true Try.f3.params.toList args.toList ds p := hA0
  rw [Try.params3] at hA hval
  obtain ⟨v0, vs0, d0, ds0, p0, q0, hargs, rfl, rfl, h0, r0⟩ := trodAll_cons hA
  obtain ⟨v1, vs1, d1, ds1, p1, q1, rfl, rfl, rfl, h1, r1⟩ := trodAll_cons r0
  obtain ⟨v2, vs2, d2, ds2, p2, q2, rfl, rfl, rfl, h2, r2⟩ := trodAll_cons r1
  obtain ⟨v3, vs3, d3, ds3, p3, q3, rfl, rfl, rfl, h3, r3⟩ := trodAll_cons r2
  obtain ⟨rfl, rfl, rfl⟩ := trodAll_nil r3
  obtain rfl : args = #[v0, v1, v2, v3] := by cases args; simp_all
  obtain ⟨rfl, rfl⟩ := trodVars_none hV
  obtain ⟨n0, A0, c0, es0, rfl, wn0, hl0, hr0, hw0⟩ := open_graph (hval 0 _ v0 rfl rfl) h0
  obtain ⟨a1, rfl, rfl, rfl, w1⟩ := open_int Try.underlying2 (hval 1 _ v1 rfl rfl) h1
  obtain ⟨n2, A2, c2, es2, rfl, wn2, hl2, hr2, hw2⟩ := open_graph (hval 2 _ v2 rfl rfl) h2
  obtain ⟨a3, rfl, rfl, rfl, w3⟩ := open_int Try.underlying2 (hval 3 _ v3 rfl rfl) h3
  clear hA0 hval0
  simp only [List.append_nil] at hW'
  refine (lawStar_any n0 A0 c0 es0 a1 n2 A2 c2 es2 a3 W hl0 hl2 hr0 hr2).mono fun e W' ⟨he, hg⟩ => ?_
  subst he
  exact ⟨_, rfl, post_true (by kernel_rfl) (tb := 4) (by kernel_rfl) Try.underlying4 rfl (by decide +kernel) ⟨rfl, rfl, rfl⟩ hW' hg⟩

theorem over : Rows.fnExactStarProductRow.holds Try.pinned (OpenSpec.ofChange Rows.fnExactStarProductSpec) :=
  OpenClaim.holds_of_wide 3 Try.f3 rfl rfl rfl rfl rfl rfl rfl ⟨rfl, rfl, rfl, rfl, rfl⟩ rfl rfl rfl rfl rfl (by kernel_rfl) Try.func3 (by kernel_rfl)
    (of_decide_eq_true (by kernel_rfl)) (by unfold Func.isWrapper; first | (rw [if_pos (by decide +kernel)]; kernel_rfl) | (rw [if_neg (by decide +kernel)]; exact ⟨rfl, rfl⟩))
    (fun os started H enc _ => lifted os started H enc)

theorem proved : Rows.FnExactStarProductSaid := over

#print axioms proved
end Go.Proofs.Ytjgmoffkecnmcaa.Star
