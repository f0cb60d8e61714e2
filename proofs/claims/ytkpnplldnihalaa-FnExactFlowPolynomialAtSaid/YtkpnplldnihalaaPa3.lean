/- FlowPolynomialAt of the reference. -/
import Derived.Test.YtkpnplldnihalaaPa2
namespace Go.Proofs.Ytkpnplldnihalaa
open Go.RowKit
set_option linter.unusedSimpArgs false
set_option linter.unusedVariables false
set_option maxRecDepth 20000

/-- The sum by the numbers below L, from the greatest one on, after k rounds. -/
def evTo (Q : List Int) (x : Int) (L k : Nat) : Int := (List.range k).foldl (fun acc j => stepA x acc (0, Q.getD (L - 1 - j) 0)) 0
theorem evTo_succ (Q : List Int) (x : Int) (L k : Nat) : evTo Q x L (k + 1) = wrap64 (wrap64 (evTo Q x L k * x) + Q.getD (L - 1 - k) 0) := by
  simp [evTo, List.range_succ, stepA]
theorem wrap64_zero : wrap64 0 = 0 := wrap64_small (by decide) (by decide)
theorem evTo_zero {Q : List Int} {x : Int} {n : Nat} (h : Q.getD n 0 = 0) : ∀ k, k ≤ n → evTo Q x (n + 1) (k + 1) = evTo Q x n k
  | 0, _ => by
    rw [evTo_succ]
    have e : evTo Q x (n + 1) 0 = 0 := rfl
    have e2 : evTo Q x n 0 = 0 := rfl
    rw [e, e2, Int.zero_mul, wrap64_zero, show n + 1 - 1 - 0 = n by omega, h]; exact wrap64_zero
  | k + 1, hk => by
    rw [evTo_succ, evTo_zero h k (by omega), evTo_succ, show n + 1 - 1 - (k + 1) = n - 1 - k by omega]
theorem evTo_trim (Q : List Int) (x : Int) : ∀ n, evTo Q x n n = evTo Q x (trimN Q n) (trimN Q n)
  | 0 => rfl
  | n + 1 => by
    rw [trimN]
    by_cases h : Q.getD n 0 = 0
    · rw [if_pos h, evTo_zero h n (Nat.le_refl _), evTo_trim Q x n]
    · rw [if_neg h]
theorem evalP_take {Q : List Int} {t : Nat} (ht : t ≤ Q.length) (x : Int) : evalP (Q.take t) x = evTo Q x t t := by
  have hl : (Q.take t).length = t := by rw [List.length_take]; omega
  have key : ∀ k, k ≤ t → (uptoB (backF (Q.take t)) k).foldl (stepA x) 0 = evTo Q x t k := fun k => by
    induction k with
    | zero => intro _; rfl
    | succ k ih =>
      intro hk
      rw [uptoB_succ, List.foldl_append, ih (by omega), evTo_succ]
      have e : (backF (Q.take t) k).2 = Q.getD (t - 1 - k) 0 := by
        rw [backF, hl]
        simp [List.getD, List.getElem?_take_of_lt (show t - 1 - k < t by omega)]
      show wrap64 (wrap64 (evTo Q x t k * x) + (backF (Q.take t) k).2) = _
      rw [e]
  rw [evalP, hl]
  exact key t (Nat.le_refl _)

set_option maxHeartbeats 4000000 in
theorem specPa_b (n : Int) (A : Option Addr) (c : Nat) (es : List (Int × Int)) (x : Int) (w : World) (hl : es.length ≤ 1048576) (hr : RdE w A es) (r v : Int) (Hr : Hid ((paOf n es x).1 = r)) (Hv : Hid ((paOf n es x).2 = v)) :
    Calls Try.prog 25 #[.agg #[.int .i64 n, .slice A es.length c], .int .i64 x] w fun e w' => e = .returned (.tuple #[.int .i64 r, .int .i64 v]) ∧ Below w.heap.size w w' := by
  obtain ⟨qg, hg⟩ : ∃ q, Hid (isGraphB n es = q) := ⟨_, rfl⟩
  obtain ⟨qc, hc⟩ : ∃ q, Hid (inB x (-10) 10 = q) := ⟨_, rfl⟩
  have cg := fun W (hW : Below w.heap.size w W) => l01Is_b n A c es W qg hg hl (hr.below hW)
  have cc := fun W => l01In_b x (-10) 10 W qc hc
  cases qg
  · have Hr2 : Hid (0 = r) := by show _ = _; rw [← Hr.out, paOf, hg.out]; rfl
    have Hv2 : Hid (1 = v) := by show _ = _; rw [← Hv.out, paOf, hg.out]; rfl
    clear Hr Hv hr hg hc cc
    generalize es.length = L at *
    go_enter Try.func25, Try.ntmps25
    go_wp2_with fail
    refine (cg _ (by (repeat' (first | (with_reducible exact Below.refl _ _) | (with_reducible assumption) | (with_reducible refine Below.alloc ?_ ?_ _) | (with_reducible refine Below.drew ?_) | (with_reducible refine below_drewN ?_ _) | (with_reducible refine Below.setCell ?_ ?_ _) | (with_reducible refine Below.trans ?_ (Below.mono (by assumption) ?_)) | (first | omega | (simp only [World.size_alloc, World.size_setCell, World.size_drew]; omega) | (simp; omega) | (simp; done)))))).mono ?_
    rintro e w1 ⟨rfl, hb1⟩
    go_wp2
    go_ret2
    exact ⟨by rw [← Hr2.out, ← Hv2.out]; rfl, by (repeat' (first | (with_reducible exact Below.refl _ _) | (with_reducible assumption) | (with_reducible refine Below.alloc ?_ ?_ _) | (with_reducible refine Below.drew ?_) | (with_reducible refine below_drewN ?_ _) | (with_reducible refine Below.setCell ?_ ?_ _) | (with_reducible refine Below.trans ?_ (Below.mono (by assumption) ?_)) | (first | omega | (simp only [World.size_alloc, World.size_setCell, World.size_drew]; omega) | (simp; omega) | (simp; done))))⟩
  cases qc
  · have Hr2 : Hid (0 = r) := by show _ = _; rw [← Hr.out, paOf, hg.out, hc.out]; rfl
    have Hv2 : Hid (2 = v) := by show _ = _; rw [← Hv.out, paOf, hg.out, hc.out]; rfl
    clear Hr Hv hr hg hc
    generalize es.length = L at *
    go_enter Try.func25, Try.ntmps25
    go_wp2_with fail
    refine (cg _ (by (repeat' (first | (with_reducible exact Below.refl _ _) | (with_reducible assumption) | (with_reducible refine Below.alloc ?_ ?_ _) | (with_reducible refine Below.drew ?_) | (with_reducible refine below_drewN ?_ _) | (with_reducible refine Below.setCell ?_ ?_ _) | (with_reducible refine Below.trans ?_ (Below.mono (by assumption) ?_)) | (first | omega | (simp only [World.size_alloc, World.size_setCell, World.size_drew]; omega) | (simp; omega) | (simp; done)))))).mono ?_
    rintro e w1 ⟨rfl, hb1⟩
    simp only [World.size_alloc, World.size_setCell, World.size_drew] at hb1; have B1 : Below w.heap.size w w1 := by (repeat' (first | (with_reducible exact Below.refl _ _) | (with_reducible assumption) | (with_reducible refine Below.alloc ?_ ?_ _) | (with_reducible refine Below.drew ?_) | (with_reducible refine below_drewN ?_ _) | (with_reducible refine Below.setCell ?_ ?_ _) | (with_reducible refine Below.trans ?_ (Below.mono (by assumption) ?_)) | (first | omega | (simp only [World.size_alloc, World.size_setCell, World.size_drew]; omega) | (simp; omega) | (simp; done))))
    have K1 : Blk w1 w.heap.size 30 #[.int .i64 n, .slice A L c] := (Blk.new' _ rfl).below hb1 (by omega)
    have d10 := K1.cellAt 0 _ rfl; have d11 := K1.cellAt 1 _ rfl; have z1 := hb1.size; simp only [World.size_alloc, World.size_setCell, World.size_drew] at z1
    go_wp2_with fail
    refine (cc _).mono ?_
    rintro e w2 ⟨rfl, rfl⟩
    go_wp2
    go_ret2
    exact ⟨by rw [← Hr2.out, ← Hv2.out]; rfl, B1⟩
  by_cases h : (12 : Int) < n
  · have Hr2 : Hid (0 = r) := by show _ = _; rw [← Hr.out, paOf, hg.out, hc.out]; simp [scode, gcode, h]
    have Hv2 : Hid (3 = v) := by show _ = _; rw [← Hv.out, paOf, hg.out, hc.out]; simp [scode, gcode, h]
    clear Hr Hv hr hg hc
    generalize es.length = L at *
    go_enter Try.func25, Try.ntmps25
    go_wp2_with fail
    refine (cg _ (by (repeat' (first | (with_reducible exact Below.refl _ _) | (with_reducible assumption) | (with_reducible refine Below.alloc ?_ ?_ _) | (with_reducible refine Below.drew ?_) | (with_reducible refine below_drewN ?_ _) | (with_reducible refine Below.setCell ?_ ?_ _) | (with_reducible refine Below.trans ?_ (Below.mono (by assumption) ?_)) | (first | omega | (simp only [World.size_alloc, World.size_setCell, World.size_drew]; omega) | (simp; omega) | (simp; done)))))).mono ?_
    rintro e w1 ⟨rfl, hb1⟩
    simp only [World.size_alloc, World.size_setCell, World.size_drew] at hb1; have B1 : Below w.heap.size w w1 := by (repeat' (first | (with_reducible exact Below.refl _ _) | (with_reducible assumption) | (with_reducible refine Below.alloc ?_ ?_ _) | (with_reducible refine Below.drew ?_) | (with_reducible refine below_drewN ?_ _) | (with_reducible refine Below.setCell ?_ ?_ _) | (with_reducible refine Below.trans ?_ (Below.mono (by assumption) ?_)) | (first | omega | (simp only [World.size_alloc, World.size_setCell, World.size_drew]; omega) | (simp; omega) | (simp; done))))
    have K1 : Blk w1 w.heap.size 30 #[.int .i64 n, .slice A L c] := (Blk.new' _ rfl).below hb1 (by omega)
    have d10 := K1.cellAt 0 _ rfl; have d11 := K1.cellAt 1 _ rfl; have z1 := hb1.size; simp only [World.size_alloc, World.size_setCell, World.size_drew] at z1
    go_wp2_with fail
    refine (cc _).mono ?_
    rintro e w2 ⟨rfl, rfl⟩
    go_wp2
    go_ret2
    exact ⟨by rw [← Hr2.out, ← Hv2.out]; rfl, B1⟩
  · obtain ⟨h1, h2⟩ := isGraphB_n hg.out
    have b2 := isGraphB_len hg.out
    have hin := isGraphB_in hg.out
    obtain ⟨hp0, hne⟩ := isGraphB_ne hg.out
    obtain ⟨N, rfl⟩ : ∃ m : Nat, n = m := ⟨n.toNat, by omega⟩
    rw [Int.toNat_natCast] at hin
    obtain ⟨Q, HQ⟩ : ∃ Q, Hid (countsV N es = Q) := ⟨_, rfl⟩
    obtain ⟨L, HL⟩ : ∃ L, Hid (es.length = L) := ⟨_, rfl⟩
    obtain ⟨M, HM⟩ : ∃ M, Hid (es.length + 2 = M) := ⟨_, rfl⟩
    have HQl : Hid (Q.length = M) := by show _ = _; rw [← HQ.out, countsV_len, HM.out]
    have Hr2 : Hid (evTo Q x L L = r) := by
      show _ = _
      rw [← Hr.out, paOf, hg.out, hc.out]
      have e0 : scode true true (N : Int) 12 = 0 := by simp [scode, gcode, h]
      rw [if_pos e0, Int.toNat_natCast, (poly_counts hin hne hp0).1, HQ.out, HL.out]
      show _ = evalP (Q.take (trimN Q L)) x
      rw [evalP_take (by rw [HQl.out, ← HM.out, HL.out]; have := trimN_le Q L; omega), evTo_trim]
    have Hv2 : Hid (0 = v) := by show _ = _; rw [← Hv.out, paOf, hg.out, hc.out]; simp [scode, gcode, h]
    have cs := fun (W : World) (hW : Below w.heap.size w W) => l09Counts_b N M A c es W (by omega) (by omega) (by omega) HM hin (hr.below hW)
    simp only [HQ.out] at cs
    have hLM : L + 2 = M := by rw [← HM.out, HL.out]
    rw [HL.out] at b2 cg cs
    rw [HL.out]
    have HLM := Lib.hid hLM
    have wL : wrap64 ((L : Int) - 1) = (L : Int) - 1 := wrap64_small (by omega) (by omega)
    clear hr hg hc Hr Hv hin hne HQ hp0 hl HL HM hLM
    go_enter Try.func25, Try.ntmps25
    go_wp2_with fail
    refine (cg _ (by (repeat' (first | (with_reducible exact Below.refl _ _) | (with_reducible assumption) | (with_reducible refine Below.alloc ?_ ?_ _) | (with_reducible refine Below.drew ?_) | (with_reducible refine below_drewN ?_ _) | (with_reducible refine Below.setCell ?_ ?_ _) | (with_reducible refine Below.trans ?_ (Below.mono (by assumption) ?_)) | (first | omega | (simp only [World.size_alloc, World.size_setCell, World.size_drew]; omega) | (simp; omega) | (simp; done)))))).mono ?_
    rintro e w1 ⟨rfl, hb1⟩
    simp only [World.size_alloc, World.size_setCell, World.size_drew] at hb1; have B1 : Below w.heap.size w w1 := by (repeat' (first | (with_reducible exact Below.refl _ _) | (with_reducible assumption) | (with_reducible refine Below.alloc ?_ ?_ _) | (with_reducible refine Below.drew ?_) | (with_reducible refine below_drewN ?_ _) | (with_reducible refine Below.setCell ?_ ?_ _) | (with_reducible refine Below.trans ?_ (Below.mono (by assumption) ?_)) | (first | omega | (simp only [World.size_alloc, World.size_setCell, World.size_drew]; omega) | (simp; omega) | (simp; done))))
    have K1 : Blk w1 w.heap.size 30 #[.int .i64 (N : Int), .slice A L c] := (Blk.new' _ rfl).below hb1 (by omega)
    have d10 := K1.cellAt 0 _ rfl; have d11 := K1.cellAt 1 _ rfl; have z1 := hb1.size; simp only [World.size_alloc, World.size_setCell, World.size_drew] at z1
    go_wp2_with fail
    refine (cc _).mono ?_
    rintro e w2 ⟨rfl, rfl⟩
    go_wp2_with fail
    refine (cs _ B1).mono ?_
    rintro e w2 ⟨rfl, hQ, hb2⟩
    have B2 := B1.trans (hb2.mono B1.size); have K2 := K1.below hb2 K1.lt; have d20 := K2.cellAt 0 _ rfl; have d21 := K2.cellAt 1 _ rfl; have z2 := B2.size
    have HB := Lib.hid hQ
    have B2' : Hid (Below w.heap.size w w2) := B2
    clear hQ d10 d11 hb1 hb2 K1 B1
    obtain ⟨gq, Hgq⟩ : ∃ gq, Hid (w1.heap.size + 1 = gq) := ⟨_, rfl⟩
    rw [Hgq.out] at HB ⊢
    go_wp2
    go_loopw [7, 8] (fun s i wr => ∃ k : Nat, k ≤ L ∧ i = .int .i64 ((L : Int) - 1 - k) ∧ s = .int .i64 (evTo Q x L k) ∧ w2 = wr) (fun _ i _ => (intOf i + 1).toNat)
    case atStart => exact ⟨0, Nat.zero_le _, by simp, rfl, rfl⟩
    case round =>
      clear d20 d21 wL
      obtain ⟨k, hk, rfl, rfl, rfl⟩ := hrel
      by_cases hlt : k < L
      · obtain ⟨j, Hj⟩ : ∃ j, Hid (L - 1 - k = j) := ⟨_, rfl⟩
        have hjM : j < M := by have := Hj.out; have := HLM.out; omega
        have hcj := blkI_cell HB.out (j := j) (by rw [HQl.out]; exact hjM)
        have Hs := Lib.hid (evTo_succ Q x L k)
        rw [Hj.out] at Hs
        have e1 : (L : Int) - 1 - k = (j : Int) := by have := Hj.out; omega
        rw [e1]
        obtain ⟨ej, ej2, ej3⟩ := idxF j M hjM
        obtain ⟨u, Hu⟩ : ∃ u, Hid (Q.getD j 0 = u) := ⟨_, rfl⟩
        obtain ⟨a, Ha⟩ : ∃ a, Hid (evTo Q x L k = a) := ⟨_, rfl⟩
        rw [Hu.out] at hcj Hs
        rw [Ha.out] at Hs ⊢
        have w2 : wrap64 ((j : Int) - 1) = (j : Int) - 1 := wrap64_small (by omega) (by omega)
        clear e1
        go_wp2
        refine ⟨⟨k + 1, by omega, ?_, ?_, trivial⟩, by (have := Hj.out); first | (simp [intOf]; done) | (simp [intOf]; omega)⟩
        · (have := Hj.out); congr 1; omega
        · rw [Hs.out]
      · obtain rfl : k = L := by omega
        have e1 : (k : Int) - 1 - k = -1 := by omega
        rw [e1, Hr2.out]
        go_wp2
        go_ret2
        exact ⟨by rw [← Hv2.out]; rfl, B2'.out⟩
end Go.Proofs.Ytkpnplldnihalaa
