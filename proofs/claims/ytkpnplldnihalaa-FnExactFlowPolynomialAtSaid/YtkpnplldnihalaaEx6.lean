/- The reference's walk over all sets of edges: l09Sets. -/
import Derived.Test.YtkpnplldnihalaaEx5
namespace Go.Proofs.Ytkpnplldnihalaa
open Go.RowKit
set_option linter.unusedSimpArgs false
set_option linter.unusedVariables false
set_option maxRecDepth 20000

theorem stepS_one {L N : Nat} {acc : List Int} {k s : Int} {j : Nat} {sg : Int} (hj : (j : Int) = k - N + s) (hs : sg = (if ((L : Int) - k).tmod 2 ≠ 0 then -1 else 1)) (a1 a2 : List Int)
    (h1 : a1 = acc.set j (wrap64 (acc.getD j 0 + sg))) (h2 : a2 = if j = 0 then a1.set L (wrap64 (a1.getD L 0 + 1)) else a1) :
    stepS L N acc (k, s) = if s = 1 then a2.set (L + 1) (wrap64 (a2.getD (L + 1) 0 + 1)) else a2 := by
  unfold stepS
  dsimp only
  rw [← hj, Int.toNat_natCast, ← hs, ← h1]
  have e : ((j : Int) = 0) ↔ (j = 0) := by omega
  simp only [e]
  rw [← h2]

set_option maxHeartbeats 8000000 in
theorem setsLeaf_b (gc N L M : Nat) (A : Option Addr) (c cc : Nat) (A' : Option Addr) (c' : Nat) (B : Nat) (k s : Int) (acc : List Int) (W : World)
    (hL : L ≤ 100) (hN : N ≤ 100) (hM : Hid (L + 2 = M)) (hok : OkL N L k s) (hacc : Hid (acc.length = M)) (hB : B ≤ gc) (hBk : Blk W gc 2 (cI acc).toArray) (hBW : B ≤ W.heap.size) :
    Calls Try.prog 98 #[.agg #[.int .i64 N, .slice A L c], .int .i64 L, .int .i64 k, .int .i64 s, .slice A' N c', .slice (some ⟨gc, 0, none⟩) M cc] W fun e w' => e = .returned (.tuple #[]) ∧ SameBut gc W w' ∧ Below B W w' ∧ Blk w' gc 2 (cI (stepS L N acc (k, s))).toArray := by
  obtain ⟨k0, k1, s0, s1, ks⟩ := hok
  obtain ⟨j, Hj⟩ : ∃ j : Nat, Hid ((j : Int) = k - N + s) := ⟨(k - N + s).toNat, by show _ = _; omega⟩
  have hjM : j < M := by have := Hj.out; have := hM.out; omega
  obtain ⟨kn, Hkn⟩ : ∃ kn : Int, Hid (k - N = kn) := ⟨_, rfl⟩
  have W1 : Hid (IntKind.i64.wrap (k - N) = kn) := by show _ = _; rw [← Hkn.out]; exact IntWalk.i64_in _ (by omega)
  have W2 : Hid (IntKind.i64.wrap (kn + s) = j) := by show _ = _; rw [Hj.out, ← Hkn.out]; exact IntWalk.i64_in _ (by omega)
  have W3 : Hid (wrap64 (k - N) = kn) := by show _ = _; rw [← Hkn.out]; exact wrap64_small (by omega) (by omega)
  have W4 : Hid (wrap64 (kn + s) = j) := by show _ = _; rw [Hj.out, ← Hkn.out]; exact wrap64_small (by omega) (by omega)
  obtain ⟨lk, Hlk⟩ : ∃ lk : Int, Hid ((L : Int) - k = lk) := ⟨_, rfl⟩
  have W5 : Hid (wrap64 ((L : Int) - k) = lk) := by show _ = _; rw [← Hlk.out]; exact wrap64_small (by omega) (by omega)
  obtain ⟨sg, Hsg⟩ : ∃ sg : Int, Hid (sg = (if ((L : Int) - k).tmod 2 ≠ 0 then -1 else 1)) := ⟨_, rfl⟩
  have hgW := hBk.lt
  have HBk := Lib.hid hBk
  have HS := fun a1 a2 h1 h2 => stepS_one (acc := acc) Hj.out Hsg.out a1 a2 h1 h2
  have HHS := Lib.hid HS
  clear HS hBk k0 k1 s0 s1 ks
  have Hsg2 : Hid (sg = (if lk.tmod 2 ≠ 0 then -1 else 1)) := by show _ = _; rw [← Hlk.out]; exact Hsg.out
  clear Hsg Hlk Hkn Hj
  go_enter Try.func98, Try.ntmps98
  have w5 := W5.out
  go_upto_if 28 with fail
  clear w5
  have hS1 : SameBut gc W (W.alloc (.cells #[.int .i64 (N : Int), .slice A L c] 30)) := SameBut.of_below (Below.alloc (Below.refl _ _) (Nat.le_refl _) _)
  have hB1 : Below B W (W.alloc (.cells #[.int .i64 (N : Int), .slice A L c] 30)) := Below.alloc (Below.refl _ _) hBW _
  have hK1 := Blk.new W 30 #[.int .i64 (N : Int), .slice A L c]
  have hQ1 := HBk.out.alloc (.cells #[.int .i64 (N : Int), .slice A L c] 30)
  generalize W.alloc (.cells #[.int .i64 (N : Int), .slice A L c] 30) = V1 at *
  have HS1 := Lib.hid hS1; have HB1 := Lib.hid hB1; have HK1 := Lib.hid hK1; have HQ1 := Lib.hid hQ1
  clear hS1 hB1 hK1 hQ1 HBk
  go_cut [13] (fun sv wx => sv = .int .i64 sg ∧ V1 = wx)
  case first =>
    by_cases ht : lk.tmod 2 = 0
    · have t1 : (lk.tmod 2 != 0) = false := by simpa using ht
      have Hs : Hid (sg = 1) := by show _ = _; rw [Hsg2.out, if_neg (by simpa using ht)]
      clear ht
      go_wp2
      go_meet
      exact ⟨by rw [Hs.out], rfl⟩
    · have t1 : (lk.tmod 2 != 0) = true := by simpa using ht
      have Hs : Hid (sg = -1) := by show _ = _; rw [Hsg2.out, if_pos (by simpa using ht)]
      clear ht
      go_wp2
      go_meet
      exact ⟨by rw [Hs.out], rfl⟩
  case rest =>
    obtain ⟨rfl, rfl⟩ := hcut
    clear Hsg2
    have k00 := HK1.out.cellAt 0 _ rfl
    have k01 := HK1.out.cellAt 1 _ rfl
    have x := blkI_cell HQ1.out (j := j) (by rw [hacc.out]; exact hjM)
    have fz := HQ1.out.frozen j
    obtain ⟨v, Hv⟩ : ∃ v, Hid (acc.getD j 0 = v) := ⟨_, rfl⟩
    rw [Hv.out] at x
    have wk1 := W1.out
    have wk2 := W2.out
    obtain ⟨ej, ej2, ej3⟩ := idxF j M hjM
    go_wp2_with fail
    go_still_tail 19, (by kernel_rfl)
    change wpList _ _ _ _ _ V1.drew
    have wk3 := W3.out
    have wk4 := W4.out
    clear wk1 wk2
    go_upto_if 54 with fail
    clear wk3 wk4 k00 k01 fz x ej ej2 ej3
    obtain ⟨a1, Ha1⟩ : ∃ a1, Hid (a1 = acc.set j (wrap64 (acc.getD j 0 + sg))) := ⟨_, rfl⟩
    have Hl1 : Hid (a1.length = M) := by show _ = _; rw [Ha1.out, List.length_set]; exact hacc.out
    have hQ2 : Blk (V1.setCell ⟨gc, j, none⟩ (.int .i64 (wrap64 (v + sg)))).drew gc 2 (cI a1).toArray := (blkI_set HQ1.out (by rw [Ha1.out, Hv.out])).drew
    have hS2 : SameBut gc W (V1.setCell ⟨gc, j, none⟩ (.int .i64 (wrap64 (v + sg)))).drew := (HS1.out.set j _).trans (SameBut.of_below (Below.drew (Below.refl _ _)))
    have hB2 : Below B W (V1.setCell ⟨gc, j, none⟩ (.int .i64 (wrap64 (v + sg)))).drew := (HB1.out.setCell (p := ⟨gc, j, none⟩) hB _).drew
    generalize (V1.setCell ⟨gc, j, none⟩ (.int .i64 (wrap64 (v + sg)))).drew = V2 at *
    have HQ2 := Lib.hid hQ2; have HS2 := Lib.hid hS2; have HB2 := Lib.hid hB2
    clear hQ2 hS2 hB2 HQ1 HS1 HB1 HK1 Hv
    have hLM : L < M := by have := hM.out; omega
    have hLM2 : L + 1 < M := by have := hM.out; omega
    go_cut [13] (fun sv wx => Hid (Blk wx gc 2 (cI (if j = 0 then a1.set L (wrap64 (a1.getD L 0 + 1)) else a1)).toArray) ∧ Hid (SameBut gc W wx) ∧ Hid (Below B W wx))
    case first =>
      by_cases hj : j = 0
      · have t1 : ((j : Int) == 0) = true := by simpa using hj
        have x := blkI_cell HQ2.out (j := L) (by rw [Hl1.out]; exact hLM)
        have fz := HQ2.out.frozen L
        obtain ⟨u, Hu⟩ : ∃ u, Hid (a1.getD L 0 = u) := ⟨_, rfl⟩
        rw [Hu.out] at x
        obtain ⟨el, el2, el3⟩ := idxF L M hLM
        have Hj := Lib.hid hj
        clear hj
        go_wp2
        go_meet
        refine ⟨?_, HS2.out.set L _, HB2.out.setCell (by exact hB) _⟩
        exact blkI_set HQ2.out (by rw [if_pos Hj.out, Hu.out])
      · have t1 : ((j : Int) == 0) = false := by simpa using hj
        have Hj : Hid (¬ j = 0) := hj
        clear hj
        go_wp2
        go_meet
        refine ⟨?_, HS2, HB2⟩
        rw [if_neg Hj.out]; exact HQ2
    case rest =>
      obtain ⟨HQ3, HS3, HB3⟩ := hcut
      clear HQ2 HS2 HB2
      have HF := Lib.hid (HHS.out a1 _ Ha1.out rfl)
      obtain ⟨a2, Ha2⟩ : ∃ a2, Hid ((if j = 0 then a1.set L (wrap64 (a1.getD L 0 + 1)) else a1) = a2) := ⟨_, rfl⟩
      rw [Ha2.out] at HF HQ3
      have Hl2 : Hid (a2.length = M) := by show _ = _; rw [← Ha2.out]; split <;> simp [Hl1.out]
      clear HHS Ha1 Ha2 Hl1
      by_cases hs : s = 1
      · have x := blkI_cell HQ3.out (j := L + 1) (by rw [Hl2.out]; exact hLM2)
        have fz := HQ3.out.frozen (L + 1)
        obtain ⟨u, Hu⟩ : ∃ u, Hid (a2.getD (L + 1) 0 = u) := ⟨_, rfl⟩
        rw [Hu.out] at x
        rw [if_pos hs, Hu.out] at HF
        subst hs
        go_wp2
        clear x fz
        refine bodyPost_ret (results_none rfl _ _ _) rfl ?_
        refine ⟨rfl, HS3.out.set (L + 1) _, HB3.out.setCell (by exact hB) _, ?_⟩
        exact blkI_set HQ3.out HF.out.symm
      · rw [if_neg hs] at HF
        have t1 : (s == 1) = false := by simpa using hs
        clear hs
        go_wp2
        refine bodyPost_ret (results_none rfl _ _ _) rfl ?_
        refine ⟨rfl, HS3.out, HB3.out, ?_⟩
        rw [HF.out]; exact HQ3.out
end Go.Proofs.Ytkpnplldnihalaa
