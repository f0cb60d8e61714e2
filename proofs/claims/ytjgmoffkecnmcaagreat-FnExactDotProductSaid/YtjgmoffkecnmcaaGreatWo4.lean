/- The reference's l06Without. No statement of the program is proved here. -/
import Derived.Test.YtjgmoffkecnmcaaGreatWo3
import Derived.Test.YtjgmoffkecnmcaaGreatNe1
namespace Go.Proofs.YtjgmoffkecnmcaaGreat
open Go.RowKit
set_option linter.unusedSimpArgs false
set_option linter.unusedVariables false
set_option maxRecDepth 20000

theorem own_same {w w' : World} {base : Nat} {e : TypeId} {size n c g : Nat} {xs : List Value} (h : w.ownsRow base e size (.slice (some ⟨g, 0, none⟩) n c) n xs) (hk : ∀ t cs, t = e → Blk w g t cs → Blk w' g t cs) : w'.ownsRow base e size (.slice (some ⟨g, 0, none⟩) n c) n xs := by
  refine ⟨h.1, .inr ?_⟩
  rcases h.2 with ⟨h1, _⟩ | ⟨g', cap, cur, hv, hge, hh, h6, h7, h8, ht⟩
  · cases h1
  · injection hv with h1 h2 h3
    injection h1 with h1
    injection h1 with h1 _ _
    subst h1
    exact ⟨g, cap, cur, by rw [h3], hge, hk e cur rfl hh, h6, h7, h8, ht⟩
theorem numV_yes {s v : Nat} {f : Int} (h : s.testBit v = true) : numV s f v = -1 := by unfold numV; rw [if_pos h]
theorem numV_no {s v : Nat} {f : Int} (h : s.testBit v = false) : numV s f v = frV s f v := by unfold numV; rw [if_neg (by rw [h]; decide)]

set_option maxHeartbeats 8000000 in
theorem l06Without_b (N : Nat) (A : Option Addr) (c : Nat) (es : List (Int × Int)) (f : Int) (G : Option Addr) (gc : Nat) (gs : List Int) (w : World) (hl : es.length ≤ 1000) (hN : N ≤ 60) (hf : 0 ≤ f ∧ f ≤ 1000) (hgs : ∀ x ∈ gs, 0 ≤ x) (hgl : gs.length ≤ 1000) (hin : InN N es) (hr : RdE w A es) (hrg : RdI w G gs) :
    Calls Tryz.prog 18 #[.agg #[.int .i64 N, .slice A es.length c], .int .i64 f, .slice G gs.length gc] w fun e w' => ∃ g1 c1 g2 c2, e = .returned (.tuple #[.slice (some ⟨g1, 0, none⟩) (woL (setN gs) f es).length c1, .slice (some ⟨g2, 0, none⟩) N c2]) ∧ w'.ownsRow w.heap.size 40 2 (.slice (some ⟨g1, 0, none⟩) (woL (setN gs) f es).length c1) (woL (setN gs) f es).length (cE (woL (setN gs) f es)) ∧ w'.ownsRow w.heap.size 2 1 (.slice (some ⟨g2, 0, none⟩) N c2) N (cI (numL (setN gs) f N)) ∧ Below w.heap.size w w' := by
  have Hre : Hid (∀ W, Below w.heap.size w W → RdE W A es) := fun W hW => hr.below hW
  have Hrg : Hid (∀ W, Below w.heap.size w W → RdI W G gs) := fun W hW => hrg.below hW
  have Hin := Lib.hid hin
  have Hbit : Hid (∀ i : Nat, (setN gs).testBit i = decide ((i : Int) ∈ gs)) := setN_bit hgs
  have Hl := Lib.hid hl
  have Hf := Lib.hid hf
  have HN := Lib.hid hN
  have Hgl := Lib.hid hgl
  obtain ⟨m, Hm⟩ : ∃ m, Hid (es.length = m) := ⟨_, rfl⟩
  obtain ⟨q, Hq⟩ : ∃ m, Hid (gs.length = m) := ⟨_, rfl⟩
  rw [Hm.out] at Hl
  rw [Hq.out] at Hgl
  rw [Hm.out, Hq.out]
  obtain ⟨s, Hs⟩ : ∃ s, Hid (setN gs = s) := ⟨_, rfl⟩
  rw [Hs.out] at Hbit ⊢
  clear hr hrg hin hl hf hN hgs hgl
  go_enter Tryz.func18, Tryz.ntmps18
  go_wp2
  go_loopw [1, 8, 10] (fun fr nn vv wr => ∃ k : Nat, k ≤ N ∧ vv = .int .i64 k ∧ fr = .int .i64 (frV s f k) ∧ Hid (wr.ownsRow (w.heap.size + 1) 2 1 nn k (cI (numL s f k))) ∧ Hid (∃ g c', nn = .slice (some ⟨g, 0, none⟩) k c') ∧ Hid (Blk wr (w.heap.size + 2) 40 #[]) ∧ Hid (Blk wr w.heap.size 28 #[.int .i64 N, .slice A m c]) ∧ Hid (Below w.heap.size w wr)) (fun _ _ vv _ => N - (intOf vv).toNat)
  case atStart => exact ⟨0, Nat.zero_le _, rfl, by rw [frV_zero], own_blk (xs := []) ((Blk.new' (n := w.heap.size + 1) (t := 2) (cs := #[]) _ (by simp)).alloc _) (by simp) (by decide) |> fun h => own_mono h (Nat.le_refl _), ⟨_, _, rfl⟩, Blk.new' _ (by simp), ((Blk.new w _ _).alloc _).alloc _, by show Below _ _ _; (repeat' (first | (with_reducible exact Below.refl _ _) | (with_reducible assumption) | (with_reducible refine Below.alloc ?_ ?_ _) | (with_reducible refine Below.drew ?_) | (with_reducible refine below_drewN ?_ _) | (with_reducible refine Below.setCell ?_ ?_ _) | (with_reducible refine Below.trans ?_ (Below.mono (by assumption) ?_)) | (first | omega | (simp only [World.size_alloc, World.size_setCell, World.size_drew]; omega) | (simp; omega) | (simp; done))))⟩
  case round =>
    obtain ⟨k, hk, rfl, rfl, Hown, Hsl, HE, HK, Hbel⟩ := hrel
    obtain ⟨g0, c0, rfl⟩ := Hsl.out
    have hsz := HE.out.lt
    have k00 := HK.out.cellAt 0 _ rfl
    by_cases hlt : k < N
    · have hfb := frV_ge (s := s) (v := k) Hf.out.1
      have Hfb : Hid (0 ≤ frV s f k ∧ frV s f k ≤ k + f) := hfb
      have Hfs : Hid (frV s f (k + 1) = if s.testBit k = true then frV s f k else frV s f k + 1) := frV_succ s k f
      have Hnum : Hid (numL s f (k + 1) = numL s f k ++ [numV s f k]) := numL_succ s f k
      have Hv : Hid (numV s f k = if s.testBit k = true then -1 else frV s f k) := rfl
      obtain ⟨z, Hz⟩ : ∃ z, Hid (frV s f k = z) := ⟨_, rfl⟩
      rw [Hz.out] at Hfb Hfs Hv ⊢
      have Hlt := Lib.hid hlt
      have hk60 : k ≤ 60 := by have := HN.out; omega
      obtain ⟨wo, hwo⟩ : ∃ wo, wo = wr := ⟨_, rfl⟩
      subst hwo
      clear hlt hfb
      go_wp2_with fail
      go_loopw [11, 12] (fun oo ii wq => ∃ j : Nat, j ≤ q ∧ ii = .int .i64 j ∧ oo = .int .i64 (if (k : Int) ∈ gs.take j then -1 else z) ∧ wq = wo) (fun _ ii _ => q - (intOf ii).toNat)
      case atStart => exact ⟨0, Nat.zero_le _, rfl, by simp, rfl⟩
      case round =>
        obtain ⟨j, hj, rfl, rfl, hwq⟩ := hrel
        subst hwq
        by_cases hlt2 : j < q
        · obtain ⟨b, off, rfl, hb, hc⟩ := (Hrg.out wr Hbel.out).pos (by rw [Hq.out]; omega)
          have hcj := hc j (by rw [Hq.out]; exact hlt2)
          obtain ⟨x, Hx⟩ : ∃ x, Hid (gs.getD j 0 = x) := ⟨_, rfl⟩
          rw [Hx.out] at hcj
          clear hc
          have Htk : Hid (gs.take (j + 1) = gs.take j ++ [x]) := by
            show _ = _
            have hj' : j < gs.length := by rw [Hq.out]; exact hlt2
            rw [List.take_add_one, List.getElem?_eq_getElem hj', ← Hx.out]; simp [List.getD, hj']
          obtain ⟨ej, ej2, ej3⟩ := idxF j q hlt2
          obtain ⟨y, Hy⟩ : ∃ y : Int, Hid ((if (k : Int) ∈ gs.take j then -1 else z) = y) := ⟨_, rfl⟩
          rw [Hy.out]
          have hj9 : j ≤ 1000 := by have := Hgl.out; omega
          by_cases hxk : x = (k : Int)
          · have g0 : (x == (k : Int)) = true := by simpa using hxk
            have Hy2 : Hid (-1 = (if (k : Int) ∈ gs.take (j + 1) then (-1 : Int) else z)) := by show _ = _; rw [Htk.out, hxk]; simp
            clear hxk
            go_wp2
            exact ⟨⟨j + 1, by omega, by go_num, by rw [← Hy2.out], trivial⟩, by simp [intOf]; omega⟩
          · have g0 : (x == (k : Int)) = false := by simpa using hxk
            have Hy2 : Hid (y = (if (k : Int) ∈ gs.take (j + 1) then (-1 : Int) else z)) := by
              show _ = _
              rw [Htk.out, ← Hy.out]
              have : ((k : Int) ∈ gs.take j ++ [x]) ↔ ((k : Int) ∈ gs.take j) := by
                simp only [List.mem_append, List.mem_singleton]
                exact ⟨fun h => h.resolve_right fun e => hxk e.symm, .inl⟩
              simp only [this]
            clear hxk
            go_wp2
            exact ⟨⟨j + 1, by omega, by go_num, by rw [← Hy2.out], trivial⟩, by simp [intOf]; omega⟩
        · obtain rfl : j = q := by omega
          have hfull : gs.take j = gs := List.take_of_length_le (by rw [Hq.out]; exact Nat.le_refl _)
          rw [hfull]
          have hbk := Hbit.out k
          cases hbit : s.testBit k
          · have hmem : ¬ (k : Int) ∈ gs := by rw [hbit] at hbk; simpa using hbk.symm
            rw [if_neg hmem]
            have Hv2 : Hid (numV s f k = z) := by show _ = _; rw [Hv.out, hbit]; rfl
            have Hf2 : Hid (frV s f (k + 1) = z + 1) := by show _ = _; rw [Hfs.out, hbit]; rfl
            have g1 : decide (z ≥ 0) = true := by have := Hfb.out; simp; omega
            have p1 : wrap64 (z + 1) = z + 1 := by have := Hfb.out; have := Hf.out; exact wrap64_small (by omega) (by omega)
            clear hmem hbk hbit
            have hB3 : Below wr.heap.size wr (wr.alloc (.cells #[.int .i64 z] 2)) := Below.alloc (Below.refl _ _) (Nat.le_refl _) _
            have hown2 := own_below Hown.out hB3
            go_wp2_with (first
              | (at_builtin; refine wpList_append1B rfl rfl (w.heap.size + 1) _ k (numL s f k) rfl hown2 ⟨wr.heap.size, 0, none⟩ 1 z rfl (by simp) (by omega) (by simp; omega) ?_))
            intro g5 c5 w5 hown5 hfr5 hgr5
            have hb5 := hfr5 (w.heap.size + 1) wr (Nat.le_refl _) (hB3.mono (by omega))
            have HE5 : Hid (Blk w5 (w.heap.size + 2) 40 #[]) := (HE.out.alloc _).grown' hown2 hgr5 (by decide)
            have HK5 : Hid (Blk w5 w.heap.size 28 #[.int .i64 N, .slice A m c]) := HK.out.below hb5 (by omega)
            have Hb5 : Hid (Below w.heap.size w w5) := Hbel.out.trans (hb5.mono (by omega))
            have Hown5 : Hid (w5.ownsRow (w.heap.size + 1) 2 1 (.slice (some ⟨g5, 0, none⟩) (k + 1) c5) (k + 1) (cI (numL s f (k + 1)))) := by
              show World.ownsRow _ _ _ _ _ _ _
              rw [Hnum.out, Hv2.out]
              exact hown5
            clear hown5 hfr5 hgr5 hown2 hB3 hb5 Hown HE HK Hbel k00
            go_wp2
            exact ⟨⟨k + 1, by have := Hlt.out; omega, by go_num, by rw [Hf2.out], Hown5, ⟨g5, c5, rfl⟩, HE5, HK5, Hb5⟩, by have := Hlt.out; simp [intOf]; omega⟩
          · have hmem : (k : Int) ∈ gs := by rw [hbit] at hbk; simpa using hbk.symm
            rw [if_pos hmem]
            have Hv2 : Hid (numV s f k = -1) := by show _ = _; rw [Hv.out, hbit]; rfl
            have Hf2 : Hid (frV s f (k + 1) = z) := by show _ = _; rw [Hfs.out, hbit]; rfl
            clear hmem hbk hbit
            have hB3 : Below wr.heap.size wr (wr.alloc (.cells #[.int .i64 (-1)] 2)) := Below.alloc (Below.refl _ _) (Nat.le_refl _) _
            have hown2 := own_below Hown.out hB3
            go_wp2_with (first
              | (at_builtin; refine wpList_append1B rfl rfl (w.heap.size + 1) _ k (numL s f k) rfl hown2 ⟨wr.heap.size, 0, none⟩ 1 (-1) rfl (by simp) (by omega) (by simp; omega) ?_))
            intro g5 c5 w5 hown5 hfr5 hgr5
            have hb5 := hfr5 (w.heap.size + 1) wr (Nat.le_refl _) (hB3.mono (by omega))
            have HE5 : Hid (Blk w5 (w.heap.size + 2) 40 #[]) := (HE.out.alloc _).grown' hown2 hgr5 (by decide)
            have HK5 : Hid (Blk w5 w.heap.size 28 #[.int .i64 N, .slice A m c]) := HK.out.below hb5 (by omega)
            have Hb5 : Hid (Below w.heap.size w w5) := Hbel.out.trans (hb5.mono (by omega))
            have Hown5 : Hid (w5.ownsRow (w.heap.size + 1) 2 1 (.slice (some ⟨g5, 0, none⟩) (k + 1) c5) (k + 1) (cI (numL s f (k + 1)))) := by
              show World.ownsRow _ _ _ _ _ _ _
              rw [Hnum.out, Hv2.out]
              exact hown5
            clear hown5 hfr5 hgr5 hown2 hB3 hb5 Hown HE HK Hbel k00
            go_wp2
            exact ⟨⟨k + 1, by have := Hlt.out; omega, by go_num, by rw [Hf2.out], Hown5, ⟨g5, c5, rfl⟩, HE5, HK5, Hb5⟩, by have := Hlt.out; simp [intOf]; omega⟩
    · obtain rfl : k = N := by omega
      have HownE : Hid (wr.ownsRow (w.heap.size + 1) 40 2 (.slice (some ⟨w.heap.size + 2, 0, none⟩) 0 0) 0 (cE (woL s f (es.take 0)))) := own_mono (own_blk (xs := []) HE.out (by simp) (by decide)) (by omega)
      have HownN := Lib.hid Hown.out
      have HKK := HK
      have HBB := Hbel
      clear Hown HE HK Hbel hsz
      go_wp2_with fail
      clear k00
      go_loopw [9, 13] (fun ee ii wr => ∃ (i L : Nat), i ≤ m ∧ ii = .int .i64 i ∧ Hid (wr.ownsRow (w.heap.size + 1) 40 2 ee L (cE (woL s f (es.take i)))) ∧ Hid (∃ g c', ee = .slice (some ⟨g, 0, none⟩) L c') ∧ Hid (wr.ownsRow (w.heap.size + 1) 2 1 (.slice (some ⟨g0, 0, none⟩) k c0) k (cI (numL s f k))) ∧ Hid (Blk wr w.heap.size 28 #[.int .i64 k, .slice A m c]) ∧ Hid (Below w.heap.size w wr)) (fun _ ii _ => m - (intOf ii).toNat)
      case atStart => exact ⟨0, 0, Nat.zero_le _, rfl, HownE, ⟨_, _, rfl⟩, HownN, HKK, HBB⟩
      case round =>
        clear HownE HownN HKK HBB Hsl
        obtain ⟨i, L, hi, rfl, Hown, Hsl, HownN, HK, Hbel⟩ := hrel
        obtain ⟨g1, c1, rfl⟩ := Hsl.out
        have hsz := HK.out.lt
        have k01 := HK.out.cellAt 1 _ rfl
        have HLk : Hid (L ≤ 1000) := by
          show _ ≤ _
          have h1 := own_lenE Hown.out
          have h2 := woL_len s f (es.take i)
          rw [List.length_take] at h2
          have := Hl.out
          omega
        by_cases hlt2 : i < m
        · obtain ⟨b, off, rfl, hb, hc⟩ := (Hre.out wr Hbel.out).pos (by rw [Hm.out]; omega)
          obtain ⟨hc0, hc1⟩ := hc i (by rw [Hm.out]; exact hlt2)
          obtain ⟨x, y, Hxy, hx, hy⟩ := Hin.out i (by rw [Hm.out]; exact hlt2)
          rw [Hxy] at hc0 hc1
          dsimp only at hc0 hc1
          obtain ⟨b8, o8, e8, _, hc8⟩ := (own_rdI HownN.out).pos (by rw [numL_len]; omega)
          injection e8 with e8
          injection e8 with e8 e9 _
          subst e8; subst e9
          have hnx := hc8 x (by rw [numL_len]; exact hx)
          have hny := hc8 y (by rw [numL_len]; exact hy)
          rw [Nat.zero_add, numL_getD hx] at hnx
          rw [Nat.zero_add, numL_getD hy] at hny
          have Hs2 : Hid (woL s f (es.take (i + 1)) = if (s.testBit x || s.testBit y) = true then woL s f (es.take i) else woL s f (es.take i) ++ [(frV s f x, frV s f y)]) := by
            show _ = _
            rw [take_snocE es i (by rw [Hm.out]; exact hlt2), Hxy, woL_snoc]
            simp only [hasS, shE, frV, Int.toNat_natCast]
            first | rfl | (split <;> simp_all)
          obtain ⟨v1, Hv1⟩ : ∃ z, Hid (numV s f x = z) := ⟨_, rfl⟩
          obtain ⟨v2, Hv2⟩ : ∃ z, Hid (numV s f y = z) := ⟨_, rfl⟩
          rw [Hv1.out] at hnx
          rw [Hv2.out] at hny
          obtain ⟨ei, ei2, ei3⟩ := idxF i m hlt2
          obtain ⟨ex, ex2, ex3⟩ := idxF x k hx
          obtain ⟨ey, ey2, ey3⟩ := idxF y k hy
          obtain ⟨P, HP⟩ : ∃ P, Hid (woL s f (es.take i) = P) := ⟨_, rfl⟩
          rw [HP.out] at Hown Hs2
          have hi9 : i ≤ 1000 := by have := Hl.out; omega
          have hg0 : w.heap.size < g0 := by obtain ⟨_, _, h, _⟩ := own_blkI' HownN.out; omega
          clear hc hc8 Hxy hx hy
          go_wp2
          go_quiet (fail)
          rename_i nq
          have HK9 := Lib.hid (HK.out.drewN nq)
          have Hb9 : Hid (Below w.heap.size w (wr.drewN nq)) := below_drewN Hbel.out _
          have HE9 := Lib.hid (own_below Hown.out (below_drewN (Below.refl wr.heap.size wr) nq))
          have HN9 := Lib.hid (own_below HownN.out (below_drewN (Below.refl wr.heap.size wr) nq))
          have z9 : w.heap.size < (wr.drewN nq).heap.size := hsz
          generalize wr.drewN nq = wq at *
          clear hc0 hc1 hnx hny k01 Hown HownN HK Hbel
          cases hbx : s.testBit x
          · have hv1 : 0 ≤ v1 := by rw [← Hv1.out, numV_no hbx]; exact (frV_ge Hf.out.1).1
            have g1x : decide (v1 ≥ 0) = true := by simpa using hv1
            cases hby : s.testBit y
            · have hv2 : 0 ≤ v2 := by rw [← Hv2.out, numV_no hby]; exact (frV_ge Hf.out.1).1
              have g2x : decide (v2 ≥ 0) = true := by simpa using hv2
              have Hs3 : Hid (woL s f (es.take (i + 1)) = P ++ [(v1, v2)]) := by
                show _ = _
                rw [Hs2.out, hbx, hby, if_neg (by decide), ← Hv1.out, ← Hv2.out, numV_no hbx, numV_no hby]
              clear hv1 hv2 hbx hby
              have hB3 : Below wq.heap.size wq (wq.alloc (.cells #[.int .i64 v1, .int .i64 v2] 40)) := Below.alloc (Below.refl _ _) (Nat.le_refl _) _
              have hown2 := own_below HE9.out hB3
              have hnew : RdE (wq.alloc (.cells #[.int .i64 v1, .int .i64 v2] 40)) (some ⟨wq.heap.size, 0, none⟩) [(v1, v2)] := blkE_rd (t := 40) (es := [(v1, v2)]) (Blk.new' (n := wq.heap.size) _ rfl)
              go_wp2_with (first
                | (at_builtin; refine wpList_appendE rfl rfl (w.heap.size + 1) _ L P rfl hown2 wq.heap.size 0 1 1 [(v1, v2)] rfl rfl hnew (by have := HLk.out; omega) (by omega) (by simp; omega) ?_))
              intro v' w3 hown3 hfr hgr
              have hb3 := hfr (w.heap.size + 1) wq (Nat.le_refl _) (hB3.mono (by omega))
              have Hb3 : Hid (Below w.heap.size w w3) := Hb9.out.trans (hb3.mono (by omega))
              have HK3 := Lib.hid (HK9.out.below hb3 (by omega))
              have HN3 : Hid (w3.ownsRow (w.heap.size + 1) 2 1 (.slice (some ⟨g0, 0, none⟩) k c0) k (cI (numL s f k))) := own_same (own_below HN9.out hB3) fun t cs ht hB => hB.grown' hown2 hgr (by rw [ht]; decide)
              obtain ⟨g, c2, rfl, _, _⟩ := own_someI hown3 (by omega)
              have Hown3 : Hid (w3.ownsRow (w.heap.size + 1) 40 2 (.slice (some ⟨g, 0, none⟩) (L + 1) c2) (L + 1) (cE (woL s f (es.take (i + 1))))) := by
                show World.ownsRow _ _ _ _ _ _ _
                rw [Hs3.out]
                exact hown3
              clear hown3 hfr hgr hown2 hnew hB3 hb3 HE9 HN9 HK9 Hb9
              go_wp2
              exact ⟨⟨i + 1, L + 1, by omega, by go_num, Hown3, ⟨g, c2, rfl⟩, HN3, HK3, Hb3⟩, by simp [intOf]; omega⟩
            · have hv2 : v2 = -1 := by rw [← Hv2.out, numV_yes hby]
              have g2x : decide (v2 ≥ 0) = false := by rw [hv2]; rfl
              have Hs3 : Hid (woL s f (es.take (i + 1)) = P) := by show _ = _; rw [Hs2.out, hbx, hby, if_pos (by rfl)]
              clear hv1 hv2 hbx hby
              go_wp2
              exact ⟨⟨i + 1, L, by omega, by go_num, by { show World.ownsRow _ _ _ _ _ _ _; rw [Hs3.out]; exact HE9.out }, ⟨g1, c1, rfl⟩, HN9, HK9, Hb9⟩, by simp [intOf]; omega⟩
          · have hv1 : v1 = -1 := by rw [← Hv1.out, numV_yes hbx]
            have g1x : decide (v1 ≥ 0) = false := by rw [hv1]; rfl
            have Hs3 : Hid (woL s f (es.take (i + 1)) = P) := by show _ = _; rw [Hs2.out, hbx, if_pos (by rfl)]
            clear hv1 hbx
            go_wp2
            exact ⟨⟨i + 1, L, by omega, by go_num, by { show World.ownsRow _ _ _ _ _ _ _; rw [Hs3.out]; exact HE9.out }, ⟨g1, c1, rfl⟩, HN9, HK9, Hb9⟩, by simp [intOf]; omega⟩
        · obtain rfl : i = m := by omega
          have hfull : es.take i = es := List.take_of_length_le (by rw [Hm.out]; exact Nat.le_refl _)
          rw [hfull] at Hown
          have HLl : Hid (L = (woL s f es).length) := own_lenE Hown.out
          go_wp2
          go_ret2
          refine ⟨g1, c1, g0, c0, ?_, ?_, own_mono HownN.out (by omega), Hbel.out⟩
          · rw [← HLl.out]; rfl
          · rw [← HLl.out]; exact own_mono Hown.out (by omega)
end Go.Proofs.YtjgmoffkecnmcaaGreat
