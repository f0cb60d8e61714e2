/- The reference's walk over all sets of edges: l09Sets calls itself. -/
import Derived.Test.YtkpnplldnihalaaEx6
namespace Go.Proofs.Ytkpnplldnihalaa
open Go.RowKit
set_option linter.unusedSimpArgs false
set_option linter.unusedVariables false
set_option maxRecDepth 20000

theorem Blk.same {w w' : World} {g b t : Nat} {cs : Array Value} (h : Blk w b t cs) (k : SameBut g w w') (hne : b ≠ g) : Blk w' b t cs := (k.2 b h.lt hne).trans h

set_option maxHeartbeats 8000000 in
theorem sets_b (gc N M : Nat) (A : Option Addr) (c cc : Nat) (es : List (Int × Int)) (B : Nat) (w0 : World)
    (hN : 1 ≤ N) (hN2 : N ≤ 100) (hl : es.length ≤ 100) (hM : Hid (es.length + 2 = M)) (hin : Hid (InN N es)) (hre : Hid (∀ W, Below B w0 W → RdE W A es)) (hB : B ≤ gc) :
    ∀ (r i : Nat) (A' : Option Addr) (c' : Nat) (x : List Int) (k s : Int) (acc : List Int) (W : World), i + r = es.length → Hid (x.length = N) → OkL N i k s → Hid (RdO W gc A' x) → Hid (acc.length = M) → Hid (Blk W gc 2 (cI acc).toArray) → Hid (Below B w0 W) →
      Calls Try.prog 98 #[.agg #[.int .i64 N, .slice A es.length c], .int .i64 i, .int .i64 k, .int .i64 s, .slice A' N c', .slice (some ⟨gc, 0, none⟩) M cc] W fun e w' => e = .returned (.tuple #[]) ∧ SameBut gc W w' ∧ Below B W w' ∧ Blk w' gc 2 (cI ((leafs true es r i x k s).foldl (stepS es.length N) acc)).toArray := by
  intro r
  induction r with
  | zero =>
    intro i A' c' x k s acc W hi hx hok hrd hacc hBk hW
    obtain rfl : i = es.length := by omega
    simp only [leafs, List.foldl_cons, List.foldl_nil]
    exact setsLeaf_b gc N es.length M A c cc A' c' B k s acc W hl hN2 hM hok hacc hB hBk.out (by have := hBk.out.lt; omega)
  | succ r ih =>
    intro i A' c' x k s acc W hi hx hok hrd hacc hBk hW
    obtain ⟨k0, k1, s0, s1, ks⟩ := id hok
    have hgW := hBk.out.lt
    have hS0 : SameBut gc W (W.alloc (.cells #[.int .i64 (N : Int), .slice A es.length c] 30)) := SameBut.of_below (Below.alloc (Below.refl _ _) (Nat.le_refl _) _)
    have hB0 : Below B W (W.alloc (.cells #[.int .i64 (N : Int), .slice A es.length c] 30)) := Below.alloc (Below.refl _ _) (by omega) _
    have HK0 := Lib.hid (Blk.new W 30 #[.int .i64 (N : Int), .slice A es.length c])
    have ih1 := ih (i + 1) A' c' x k s acc (W.alloc (.cells #[.int .i64 (N : Int), .slice A es.length c] 30)) (by omega) hx hok.skip (hrd.out.keep hS0) hacc (hBk.out.alloc _) (hW.out.trans hB0)
    rw [show ((i + 1 : Nat) : Int) = (i : Int) + 1 from rfl] at ih1
    obtain ⟨a, b, hab, ha, hb⟩ := hin.out i (by omega)
    have Hab := Lib.hid hab
    have hiL : i < es.length := by omega
    obtain ⟨L, HL⟩ : ∃ L, Hid (es.length = L) := ⟨_, rfl⟩
    rw [HL.out] at hl ih1 HK0 hS0 hB0 ⊢
    simp only [HL.out] at ih
    have hiL2 : i < L := by rw [← HL.out]; exact hiL
    have m1 : ¬ ((i : Int) = L) := by omega
    have hne : W.heap.size ≠ gc := by omega
    go_enter Try.func98, Try.ntmps98
    go_wp2_with fail
    refine ih1.mono ?_
    rintro e w1 ⟨rfl, hs1, hb1, hI1⟩
    obtain ⟨acc1, Hacc1⟩ : ∃ q, Hid ((leafs true es r (i + 1) x k s).foldl (stepS L N) acc = q) := ⟨_, rfl⟩
    have Hal : Hid (acc1.length = M) := by
      show _ = _
      rw [← Hacc1.out]
      generalize leafs true es r (i + 1) x k s = ys
      have key : ∀ (ys : List (Int × Int)) (b : List Int), (ys.foldl (stepS L N) b).length = b.length := fun ys => by
        induction ys with
        | nil => intro b; rfl
        | cons y ys ih => intro b; rw [List.foldl_cons, ih, stepS_len]
      rw [key]; exact hacc.out
    rw [Hacc1.out] at hI1
    have HI1 := Lib.hid hI1
    have S1 := hS0.trans hs1
    have B1 := hB0.trans hb1
    have K1 := Lib.hid (HK0.out.same hs1 hne)
    have rd1 := Lib.hid (hrd.out.keep S1)
    have W1 : Hid (Below B w0 w1) := hW.out.trans B1
    clear ih1 hI1 HK0 hrd hS0 hB0 hs1 hb1 hBk
    obtain ⟨eb, eo, rfl, heb, hce⟩ := (hre.out w1 W1.out).pos (by omega)
    obtain ⟨e0, e1⟩ := hce i hiL
    rw [hab] at e0 e1
    dsimp only at e0 e1
    obtain ⟨xb, xo, rfl, hxg, hxb, hcx⟩ := rd1.out.pos (by rw [hx.out]; omega)
    have x0 := hcx a (by rw [hx.out]; omega)
    have x1 := hcx b (by rw [hx.out]; omega)
    obtain ⟨va, Hva⟩ : ∃ v, Hid (x.getD a 0 = v) := ⟨_, rfl⟩
    obtain ⟨vb, Hvb⟩ : ∃ v, Hid (x.getD b 0 = v) := ⟨_, rfl⟩
    rw [Hva.out] at x0
    rw [Hvb.out] at x1
    have k00 := K1.out.cellAt 0 _ rfl
    have k01 := K1.out.cellAt 1 _ rfl
    obtain ⟨ii, ii2, ii3⟩ := idxF i L hiL2
    obtain ⟨ia, ia2, ia3⟩ := idxF a N ha
    obtain ⟨ib, ib2, ib3⟩ := idxF b N hb
    clear hce hcx hab
    go_wp2
    go_quiet (fail)
    rename_i nq
    have hs2 : SameBut gc w1 (w1.drewN nq) := SameBut.of_below (below_drewN (Below.refl _ _) nq)
    have K2 := Lib.hid (K1.out.drewN nq)
    have rd2 := Lib.hid (rd1.out.keep hs2)
    have hb2 : Below B w1 (w1.drewN nq) := below_drewN (Below.refl _ _) nq
    have I2 := Lib.hid (HI1.out.drewN nq)
    have HW2 : Hid (Below B w0 (w1.drewN nq)) := W1.out.trans hb2
    have S2 := S1.trans hs2
    have B2 := B1.trans hb2
    clear HI1 K1 rd1 W1 e0 e1 x0 x1 k00 k01 hs2 hb2 ii ii2 ii3 ia ia2 ia3 ib ib2 ib3 S1 B1
    generalize w1.drewN nq = w2 at *
    have k00 := K2.out.cellAt 0 _ rfl
    have k01 := K2.out.cellAt 1 _ rfl
    have hleaf : Hid ((leafs true es (r + 1) i x k s).foldl (stepS L N) acc = (if va = vb then leafs true es r (i + 1) x (k + 1) s else leafs true es r (i + 1) (mergeL (max va vb) (min va vb) x) (k + 1) (s - 1)).foldl (stepS L N) acc1) := by
      show _ = _
      simp only [leafs, Hab.out, Int.toNat_natCast, List.foldl_append, Hacc1.out, Hva.out, Hvb.out, if_true]
    by_cases e : va = vb
    · subst e
      have ih2 := ih (i + 1) (some ⟨xb, xo, none⟩) c' x (k + 1) s acc1 w2 (by have := HL.out; omega) hx hok.take rd2 Hal I2 HW2
      rw [show ((i + 1 : Nat) : Int) = (i : Int) + 1 from rfl] at ih2
      go_wp2_with fail
      refine ih2.mono ?_
      rintro e w3 ⟨rfl, hs3, hb3, hI3⟩
      have HI3 := Lib.hid hI3
      clear hI3 ih2 ih
      go_wp2
      refine bodyPost_ret (results_none rfl _ _ _) rfl ?_
      refine ⟨rfl, S2.trans hs3, B2.trans hb3, ?_⟩
      rw [hleaf.out]; first | rw [if_pos rfl] | rw [if_pos trivial]
      exact HI3.out
    · have cl := l01Own_b (some ⟨xb, xo, none⟩) c' x w2 (by rw [hx.out]; omega) (by rw [hx.out]; omega) rd2.out.rd
      rw [hx.out] at cl
      have m2 : ¬ (va = vb) := e
      go_wp2_with fail
      refine cl.mono ?_
      rintro e' w3 ⟨g3, c3, rfl, hown, hb3⟩
      obtain ⟨mx, Hmx⟩ : ∃ m, Hid (max va vb = m) := ⟨_, rfl⟩
      obtain ⟨mn, Hmn⟩ : ∃ m, Hid (min va vb = m) := ⟨_, rfl⟩
      rw [Hmx.out, Hmn.out] at hleaf
      have Hg3 : Hid (w2.heap.size ≤ g3 ∧ g3 < w3.heap.size) := by
        obtain ⟨g, c, hv, h4, h5⟩ := own_someI hown (by omega)
        injection hv with h6 _ _; injection h6 with h6; injection h6 with h6 _ _; subst h6; exact ⟨h4, h5⟩
      have Hown : Hid (w3.ownsRow w2.heap.size 2 1 (.slice (some ⟨g3, 0, none⟩) N c3) N (cI (mergeTo mx mn x 0))) := by show World.ownsRow _ _ _ _ _ _ _; rw [mergeTo_zero]; exact hown
      have HB3 := Lib.hid hb3
      clear hown cl hb3 k00 k01
      go_wp2_with fail
      go_loopw [17] (fun sv wr => ∃ v : Nat, v ≤ N ∧ sv = .int .i64 v ∧ Hid (wr.ownsRow w2.heap.size 2 1 (.slice (some ⟨g3, 0, none⟩) N c3) N (cI (mergeTo mx mn x v))) ∧ Hid (Below w2.heap.size w2 wr)) (fun sv _ => N - (intOf sv).toNat)
      case atStart => exact ⟨0, Nat.zero_le _, rfl, Hown, HB3⟩
      case round =>
        clear Hown HB3
        obtain ⟨v, hv, rfl, Hown, HB3⟩ := hrel
        have Hlen : Hid ((mergeTo mx mn x v).length = N) := by show _ = _; rw [mergeTo_len]; exact hx.out
        by_cases hlt : v < N
        · have hcell := own_cellI Hown.out Hlen.out hlt
          have hfz := own_frozen Hown.out v
          obtain ⟨iv, iv2, iv3⟩ := idxF v N hlt
          have Hgd : Hid ((mergeTo mx mn x v).getD v 0 = x.getD v 0) := mergeTo_getD mx mn x v (by rw [hx.out]; exact hlt)
          obtain ⟨u, Hu⟩ : ∃ u, Hid (x.getD v 0 = u) := ⟨_, rfl⟩
          rw [Hgd.out, Hu.out] at hcell
          by_cases e2 : u = mx
          · have t1 : (u == max va vb) = true := by rw [Hmx.out]; simpa using e2
            go_wp2
            clear hcell hfz iv iv2 iv3 t1
            have Hmn2 : (if vb < va then vb else va) = mn := by rw [← Hmn.out]; split <;> omega
            rw [Hmn2]
            refine ⟨⟨v + 1, by omega, by go_num, ?_, HB3.out.setCell (by show _ ≤ g3; exact Hg3.out.1) _⟩, by simp [intOf]; omega⟩
            have h9 := own_setI Hown.out Hlen.out hlt mn
            rw [mergeTo_yes _ _ _ _ (by rw [hx.out]; exact hlt) (by rw [Hu.out]; exact e2)] at h9
            exact h9
          · have m2 : (u == max va vb) = false := by rw [Hmx.out]; simpa using e2
            go_wp2
            clear hcell hfz iv iv2 iv3 m2
            refine ⟨⟨v + 1, by omega, by go_num, ?_, HB3⟩, by simp [intOf]; omega⟩
            rw [← mergeTo_no _ _ _ _ (by rw [hx.out]; exact hlt) (by rw [Hu.out]; exact e2)]
            exact Hown
        · obtain rfl : v = N := by omega
          have Hmrg : Hid (mergeTo mx mn x v = mergeL mx mn x) := by show _ = _; have h9 := mergeTo_all mx mn x; rw [hx.out] at h9; exact h9
          rw [Hmrg.out] at Hown Hlen
          have S3 : SameBut gc w2 wr := SameBut.of_below HB3.out
          have hg2 := I2.out.lt
          have K4 := Lib.hid (K2.out.below HB3.out K2.out.lt)
          have rd4 : Hid (RdO wr gc (some ⟨g3, 0, none⟩) (mergeL mx mn x)) := own_rdO Hown.out hg2
          have I4 := Lib.hid (I2.out.below HB3.out hg2)
          have B24 : Below B w2 wr := HB3.out.mono (by omega)
          have HW4 : Hid (Below B w0 wr) := HW2.out.trans B24
          have ih2 := ih (i + 1) (some ⟨g3, 0, none⟩) c3 (mergeL mx mn x) (k + 1) (s - 1) acc1 wr (by have := HL.out; omega) Hlen hok.join rd4 Hal I4 HW4
          rw [show ((i + 1 : Nat) : Int) = (i : Int) + 1 from rfl] at ih2
          have k00 := K4.out.cellAt 0 _ rfl
          have k01 := K4.out.cellAt 1 _ rfl
          go_wp2_with fail
          refine ih2.mono ?_
          rintro e' w5 ⟨rfl, hs5, hb5, hI5⟩
          have HI5 := Lib.hid hI5
          clear hI5 ih2 ih
          go_wp2
          go_end0
          refine ⟨rfl, (S2.trans S3).trans hs5, (B2.trans B24).trans hb5, ?_⟩
          rw [hleaf.out, if_neg e]; exact HI5.out
end Go.Proofs.Ytkpnplldnihalaa
