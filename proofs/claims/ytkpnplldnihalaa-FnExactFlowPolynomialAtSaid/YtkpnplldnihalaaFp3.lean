/- FlowPolynomial: what it returns; the program's and the reference's walks. -/
import Derived.Test.YtkpnplldnihalaaFp2
import Derived.Test.YtkpnplldnihalaaAp1
import Derived.Test.YtkpnplldnihalaaEx9
namespace Go.Proofs.Ytkpnplldnihalaa
open Go.RowKit
set_option linter.unusedSimpArgs false
set_option linter.unusedVariables false
set_option maxRecDepth 20000

theorem sgn_eq {L : Nat} {k : Int} (h0 : 0 ≤ k) (h1 : k ≤ L) : (if ((L : Int) - k).tmod 2 ≠ 0 then (-1 : Int) else 1) = sgnP L k := by
  unfold sgnP
  rw [Int.tmod_eq_emod_of_nonneg (by omega)]
  split <;> omega
theorem getD_set_any (xs : List Int) (i j : Nat) (v : Int) : (xs.set i v).getD j 0 = if i = j ∧ i < xs.length then v else xs.getD j 0 := by
  by_cases h : i = j
  · subst h
    by_cases h2 : i < xs.length
    · rw [if_pos ⟨rfl, h2⟩, getD_set_eq h2]
    · rw [if_neg (fun e => h2 e.2), List.set_eq_of_length_le (by omega)]
  · rw [if_neg (fun e => h e.1), getD_set_ne h]
theorem fold_poly (L N : Nat) : ∀ (xs : List (Int × Int)) (a b : List Int), a.length = L + 2 → b.length = L + 1 → (∀ p ∈ xs, (p.1 - N + p.2).toNat < L ∧ 0 ≤ p.1 ∧ p.1 ≤ L) → (∀ j, j < L → a.getD j 0 = b.getD j 0) → b.getD L 0 = 0 →
    (∀ j, j < L → (xs.foldl (stepS L N) a).getD j 0 = (xs.foldl (stepP L N) b).getD j 0) ∧ (xs.foldl (stepP L N) b).getD L 0 = 0
  | [], _, _, _, _, _, h, h0 => ⟨h, h0⟩
  | x :: xs, a, b, ha, hb, hx, h, h0 => by
    obtain ⟨h1, h2, h3⟩ := hx x (by simp)
    rw [List.foldl_cons, List.foldl_cons]
    refine fold_poly L N xs _ _ (by rw [stepS_len]; exact ha) (by rw [stepP_len]; exact hb) (fun p hp => hx p (by simp [hp])) (fun j hj => ?_) ?_
    · unfold stepS stepP
      dsimp only
      rw [sgn_eq h2 h3]
      have e1 : ∀ (c : List Int) (u : Int), (c.set (L + 1) u).getD j 0 = c.getD j 0 := fun c u => getD_set_ne (by omega)
      have e2 : ∀ (c : List Int) (u : Int), (c.set L u).getD j 0 = c.getD j 0 := fun c u => getD_set_ne (by omega)
      have e3 : (a.set (x.1 - N + x.2).toNat (wrap64 (a.getD (x.1 - N + x.2).toNat 0 + sgnP L x.1))).getD j 0 = (b.set (x.1 - N + x.2).toNat (wrap64 (b.getD (x.1 - N + x.2).toNat 0 + sgnP L x.1))).getD j 0 := by
        rw [getD_set_any, getD_set_any, h _ h1, h j hj]
        by_cases e : (x.1 - N + x.2).toNat = j
        · rw [if_pos ⟨e, by omega⟩, if_pos ⟨e, by omega⟩]
        · rw [if_neg (fun q => e q.1), if_neg (fun q => e q.1)]
      split <;> split <;> simp only [e1, e2, e3]
    · unfold stepP
      rw [getD_set_ne (by omega)]; exact h0
theorem take_congr {a b : List Int} {t L : Nat} (ht : t ≤ L) (ha : L ≤ a.length) (hb : L ≤ b.length) (h : ∀ j, j < L → a.getD j 0 = b.getD j 0) : a.take t = b.take t := by
  apply List.ext_getElem
  · simp; omega
  · intro j h1 h2
    rw [List.length_take] at h1 h2
    have := h j (by omega)
    rw [List.getElem_take, List.getElem_take]
    simpa [List.getD, show j < a.length by omega, show j < b.length by omega] using this
theorem poly_counts {N : Nat} {es : List (Int × Int)} (hin : InN N es) (hne : ∀ j, j < es.length → (es.getD j (0, 0)).1 ≠ (es.getD j (0, 0)).2) (hp : 0 < es.length) :
    polyV N es = (countsV N es).take (trimN (countsV N es) es.length) ∧ (∀ j, j < es.length → (countsV N es).getD j 0 = (polyC N es).getD j 0) := by
  have hl := leaf_idx hin hne hp
  have hk := leafs_ok true hin hne es.length 0 (idx N) 0 N (by omega) (okL0 N) (.inl ⟨rfl, rfl, rfl⟩)
  have hs : polyC N es = (leafs true es es.length 0 (idx N) 0 N).foldl (stepP es.length N) (List.replicate (es.length + 1) 0) := by
    rw [polyC, leafs_same hin es.length 0 (idx N) (idx N) 0 N (by omega) (idx_len N) (SameP.refl _)]
  obtain ⟨h1, h2⟩ := fold_poly es.length N (leafs true es es.length 0 (idx N) 0 N) (List.replicate (es.length + 2) 0) (List.replicate (es.length + 1) 0) (by simp) (by simp)
    (fun p hp => by
      have a := hl p hp
      have b := (hk p hp).1
      unfold OkL at b
      exact ⟨a, by omega, by omega⟩)
    (fun j hj => by simp [List.getD, show j < es.length + 2 by omega, show j < es.length + 1 by omega]) (by simp [List.getD])
  rw [← hs] at h1 h2
  have h1' : ∀ j, j < es.length → (countsV N es).getD j 0 = (polyC N es).getD j 0 := h1
  have ht : trimN (polyC N es) (es.length + 1) = trimN (countsV N es) es.length := by
    rw [trimN, if_pos h2]
    exact trimN_congr _ fun j hj => (h1' j hj).symm
  refine ⟨?_, h1'⟩
  rw [polyV, ht]
  exact take_congr (trimN_le _ _) (by rw [polyC_len]; omega) (by rw [countsV_len]; omega) fun j hj => (h1' j hj).symm

/-- What FlowPolynomial returns. -/
def fpOf (n : Int) (es : List (Int × Int)) : List Int × Int :=
  if scode (isGraphB n es) true n 12 = 0 then (polyV n.toNat es, 0) else ([], scode (isGraphB n es) true n 12)
theorem polyV_len (N : Nat) (es : List (Int × Int)) : (polyV N es).length ≤ es.length + 1 := by
  rw [polyV, List.length_take]
  have := trimN_le (polyC N es) (es.length + 1)
  omega
theorem lenFp {n : Int} {es : List (Int × Int)} : (fpOf n es).1.length ≤ 1048576 := by
  unfold fpOf
  split
  · rename_i h
    obtain ⟨h1, _⟩ := scode_zero h
    have h2 := isGraphB_len h1
    have := polyV_len n.toNat es
    show (polyV n.toNat es).length ≤ _
    omega
  · simp

set_option maxHeartbeats 4000000 in
theorem implFp_b (n : Int) (A : Option Addr) (c : Nat) (es : List (Int × Int)) (w : World) (hl : es.length ≤ 1048576) (hr : RdE w A es) (xs : List Int) (v : Int) (Hr : Hid ((fpOf n es).1 = xs)) (Hv : Hid ((fpOf n es).2 = v)) :
    Calls Try.prog 28 #[.agg #[.int .i64 n, .slice A es.length c]] w fun e w' => RetI w' w.heap.size e xs (.int .i64 v) ∧ Below w.heap.size w w' := by
  obtain ⟨qg, hg⟩ : ∃ q, Hid (isGraphB n es = q) := ⟨_, rfl⟩
  obtain ⟨u, Hu⟩ : ∃ u, Hid (scode qg true n 12 = u) := ⟨_, rfl⟩
  have cg := fun W (hW : Below w.heap.size w W) => expandedCode_b n A c es W qg true u hg Hu hl (hr.below hW)
  by_cases h : u = 0
  · subst h
    obtain ⟨rfl, hn⟩ := scode_zero Hu.out
    obtain ⟨h1, h2⟩ := isGraphB_n hg.out
    have b2 := isGraphB_len hg.out
    have hin := isGraphB_in hg.out
    obtain ⟨N, rfl⟩ : ∃ m : Nat, n = m := ⟨n.toNat, by omega⟩
    rw [Int.toNat_natCast] at hin
    have Hr2 : Hid (polyV N es = xs) := by show _ = _; rw [← Hr.out, fpOf, hg.out, if_pos Hu.out, Int.toNat_natCast]
    have Hv2 : Hid (0 = v) := by show _ = _; rw [← Hv.out, fpOf, hg.out, if_pos Hu.out]
    have cp := fun (W : World) (hW : Below w.heap.size w W) => polynomial_b N A c es W xs Hr2 (by omega) (by omega) (by omega) hin (hr.below hW)
    clear hr hg Hr Hv Hu hin b2 Hr2
    generalize es.length = L at *
    go_enter Try.func28, Try.ntmps28
    go_wp2_with fail
    refine (cg _ (by (repeat' (first | (with_reducible exact Below.refl _ _) | (with_reducible assumption) | (with_reducible refine Below.alloc ?_ ?_ _) | (with_reducible refine Below.drew ?_) | (with_reducible refine below_drewN ?_ _) | (with_reducible refine Below.setCell ?_ ?_ _) | (with_reducible refine Below.trans ?_ (Below.mono (by assumption) ?_)) | (first | omega | (simp only [World.size_alloc, World.size_setCell, World.size_drew]; omega) | (simp; omega) | (simp; done)))))).mono ?_
    rintro e w1 ⟨rfl, hb1⟩
    simp only [World.size_alloc, World.size_setCell, World.size_drew] at hb1; have B1 : Below w.heap.size w w1 := by (repeat' (first | (with_reducible exact Below.refl _ _) | (with_reducible assumption) | (with_reducible refine Below.alloc ?_ ?_ _) | (with_reducible refine Below.drew ?_) | (with_reducible refine below_drewN ?_ _) | (with_reducible refine Below.setCell ?_ ?_ _) | (with_reducible refine Below.trans ?_ (Below.mono (by assumption) ?_)) | (first | omega | (simp only [World.size_alloc, World.size_setCell, World.size_drew]; omega) | (simp; omega) | (simp; done))))
    have K1 : Blk w1 w.heap.size 30 #[.int .i64 (N : Int), .slice A L c] := (Blk.new' _ rfl).below hb1 (by omega)
    have d10 := K1.cellAt 0 _ rfl; have d11 := K1.cellAt 1 _ rfl; have z1 := hb1.size; simp only [World.size_alloc, World.size_setCell, World.size_drew] at z1
    go_wp2_with fail
    refine (cp _ B1).mono ?_
    rintro e w2 ⟨rfl, hF, hb2⟩
    have B2 : Hid (Below w.heap.size w w2) := B1.trans (hb2.mono B1.size)
    have HF : Hid (FrI w2 w.heap.size (some ⟨w1.heap.size + 1, 0, none⟩) xs) := hF.mono B1.size
    clear hF hb2
    go_wp2
    go_ret2
    exact ⟨RetI.mk HF.out rfl (by rw [← Hv2.out]; rfl), B2.out⟩
  · have Hr2 : Hid ([] = xs) := by show _ = _; rw [← Hr.out, fpOf, hg.out, if_neg (by rw [Hu.out]; exact h)]
    have Hv2 : Hid (u = v) := by show _ = _; rw [← Hv.out, fpOf, hg.out, if_neg (by rw [Hu.out]; exact h), Hu.out]
    have g1 : (u != 0) = true := by simpa using h
    have g2 : (u == 0) = false := by simpa using h
    clear Hr Hv hr hg Hu
    generalize es.length = L at *
    go_enter Try.func28, Try.ntmps28
    go_wp2_with fail
    refine (cg _ (by (repeat' (first | (with_reducible exact Below.refl _ _) | (with_reducible assumption) | (with_reducible refine Below.alloc ?_ ?_ _) | (with_reducible refine Below.drew ?_) | (with_reducible refine below_drewN ?_ _) | (with_reducible refine Below.setCell ?_ ?_ _) | (with_reducible refine Below.trans ?_ (Below.mono (by assumption) ?_)) | (first | omega | (simp only [World.size_alloc, World.size_setCell, World.size_drew]; omega) | (simp; omega) | (simp; done)))))).mono ?_
    rintro e w1 ⟨rfl, hb1⟩
    go_wp2
    go_ret2
    exact ⟨RetI.none Hr2.out.symm (by rw [← Hv2.out]; rfl), by (repeat' (first | (with_reducible exact Below.refl _ _) | (with_reducible assumption) | (with_reducible refine Below.alloc ?_ ?_ _) | (with_reducible refine Below.drew ?_) | (with_reducible refine below_drewN ?_ _) | (with_reducible refine Below.setCell ?_ ?_ _) | (with_reducible refine Below.trans ?_ (Below.mono (by assumption) ?_)) | (first | omega | (simp only [World.size_alloc, World.size_setCell, World.size_drew]; omega) | (simp; omega) | (simp; done))))⟩

set_option maxHeartbeats 4000000 in
theorem specFp_b (n : Int) (A : Option Addr) (c : Nat) (es : List (Int × Int)) (w : World) (hl : es.length ≤ 1048576) (hr : RdE w A es) (xs : List Int) (v : Int) (Hr : Hid ((fpOf n es).1 = xs)) (Hv : Hid ((fpOf n es).2 = v)) :
    Calls Try.prog 27 #[.agg #[.int .i64 n, .slice A es.length c]] w fun e w' => RetI w' w.heap.size e xs (.int .i64 v) ∧ Below w.heap.size w w' := by
  obtain ⟨qg, hg⟩ : ∃ q, Hid (isGraphB n es = q) := ⟨_, rfl⟩
  obtain ⟨u, Hu⟩ : ∃ u, Hid (scode qg true n 12 = u) := ⟨_, rfl⟩
  have cg := fun W (hW : Below w.heap.size w W) => l09Small_b n A c es W qg u hg Hu hl (hr.below hW)
  by_cases h : u = 0
  · subst h
    obtain ⟨rfl, hn⟩ := scode_zero Hu.out
    obtain ⟨h1, h2⟩ := isGraphB_n hg.out
    have b2 := isGraphB_len hg.out
    have hin := isGraphB_in hg.out
    obtain ⟨hp0, hne⟩ := isGraphB_ne hg.out
    obtain ⟨N, rfl⟩ : ∃ m : Nat, n = m := ⟨n.toNat, by omega⟩
    rw [Int.toNat_natCast] at hin
    obtain ⟨Q, HQ⟩ : ∃ Q, Hid (countsV N es = Q) := ⟨_, rfl⟩
    obtain ⟨L, HL⟩ : ∃ L, Hid (es.length = L) := ⟨_, rfl⟩
    have Hr2 : Hid (Q.take (trimN Q L) = xs) := by
      show _ = _
      rw [← Hr.out, fpOf, hg.out, if_pos Hu.out, Int.toNat_natCast]
      show _ = polyV N es
      rw [(poly_counts hin hne hp0).1, HQ.out, HL.out]
    have Hv2 : Hid (0 = v) := by show _ = _; rw [← Hv.out, fpOf, hg.out, if_pos Hu.out]
    obtain ⟨M, HM⟩ : ∃ M, Hid (es.length + 2 = M) := ⟨_, rfl⟩
    have HQl : Hid (Q.length = M) := by show _ = _; rw [← HQ.out, countsV_len, HM.out]
    have cs := fun (W : World) (hW : Below w.heap.size w W) => l09Counts_b N M A c es W (by omega) (by omega) (by omega) HM hin (hr.below hW)
    simp only [HQ.out] at cs
    have hLM : L + 2 = M := by rw [← HM.out, HL.out]
    rw [HL.out] at b2 cg cs
    rw [HL.out]
    have HLM := Lib.hid hLM
    clear hr hg Hr Hv Hu hin hne HQ hp0 hl HL HM hLM hn
    go_enter Try.func27, Try.ntmps27
    go_wp2_with fail
    refine (cg _ (by (repeat' (first | (with_reducible exact Below.refl _ _) | (with_reducible assumption) | (with_reducible refine Below.alloc ?_ ?_ _) | (with_reducible refine Below.drew ?_) | (with_reducible refine below_drewN ?_ _) | (with_reducible refine Below.setCell ?_ ?_ _) | (with_reducible refine Below.trans ?_ (Below.mono (by assumption) ?_)) | (first | omega | (simp only [World.size_alloc, World.size_setCell, World.size_drew]; omega) | (simp; omega) | (simp; done)))))).mono ?_
    rintro e w1 ⟨rfl, hb1⟩
    simp only [World.size_alloc, World.size_setCell, World.size_drew] at hb1; have B1 : Below w.heap.size w w1 := by (repeat' (first | (with_reducible exact Below.refl _ _) | (with_reducible assumption) | (with_reducible refine Below.alloc ?_ ?_ _) | (with_reducible refine Below.drew ?_) | (with_reducible refine below_drewN ?_ _) | (with_reducible refine Below.setCell ?_ ?_ _) | (with_reducible refine Below.trans ?_ (Below.mono (by assumption) ?_)) | (first | omega | (simp only [World.size_alloc, World.size_setCell, World.size_drew]; omega) | (simp; omega) | (simp; done))))
    have K1 : Blk w1 w.heap.size 30 #[.int .i64 (N : Int), .slice A L c] := (Blk.new' _ rfl).below hb1 (by omega)
    have d10 := K1.cellAt 0 _ rfl; have d11 := K1.cellAt 1 _ rfl; have z1 := hb1.size; simp only [World.size_alloc, World.size_setCell, World.size_drew] at z1
    go_wp2_with fail
    refine (cs _ B1).mono ?_
    rintro e w2 ⟨rfl, hQ, hb2⟩
    have B2 := B1.trans (hb2.mono B1.size); have K2 := K1.below hb2 K1.lt; have d20 := K2.cellAt 0 _ rfl; have d21 := K2.cellAt 1 _ rfl; have z2 := B2.size
    have HB := Lib.hid hQ
    have B2' : Hid (Below w.heap.size w w2) := B2
    have s1 := B1.size
    clear hQ d10 d11 hb1 hb2 K1 B1
    obtain ⟨gq, Hgq⟩ : ∃ gq, Hid (w1.heap.size + 1 = gq) := ⟨_, rfl⟩
    rw [Hgq.out] at HB ⊢
    go_wp2
    go_loopw [6] (fun s wr => ∃ m : Nat, m ≤ L ∧ s = .int .i64 m ∧ Hid (trimN Q m = trimN Q L) ∧ w2 = wr) (fun s _ => (intOf s).toNat)
    case atStart => exact ⟨L, Nat.le_refl _, rfl, rfl, rfl⟩
    case round =>
      clear d20 d21
      obtain ⟨m, hm, rfl, Hm, rfl⟩ := hrel
      have fin : ∀ m' : Nat, Hid (m' = trimN Q L) → m' ≤ L → Hid (Q.take m' = xs ∧ xs.length = m') := fun m' e hle => by
        show _ ∧ _
        have h9 : Q.take m' = xs := by rw [← Hr2.out, e.out]
        refine ⟨h9, ?_⟩
        rw [← h9, List.length_take, HQl.out]; have := HLM.out; omega
      rcases Nat.eq_zero_or_pos m with h0 | hpos
      · subst h0
        have HR := fin 0 Hm (by omega)
        have co := l01Own2_b gq 0 M xs w2 (by rw [HR.out.2]; omega) (by rw [← HR.out.1]; exact ((blkI_fr HB.out).take 0).rd)
        rw [HR.out.2] at co
        have hzM : (0 : Int) ≤ (M : Int) := by omega
        clear fin
        go_wp2_with fail
        refine co.mono ?_
        rintro e w3 ⟨A3, c3, rfl, hown, hb3⟩
        have HF : Hid (FrI w3 w.heap.size A3 xs) := (own_frI hown).mono B2'.out.size
        have B3 : Hid (Below w.heap.size w w3) := B2'.out.trans (hb3.mono B2'.out.size)
        clear hown hb3 co
        go_wp2
        go_ret2
        exact ⟨RetI.mk HF.out HR.out.2 (by rw [← Hv2.out]; rfl), B3.out⟩
      · obtain ⟨k, rfl⟩ : ∃ k, m = k + 1 := ⟨m - 1, by omega⟩
        have hkM : k < M := by have := HLM.out; omega
        have hk := blkI_cell HB.out (j := k) (by rw [HQl.out]; omega)
        have wk : wrap64 (((k + 1 : Nat) : Int) - 1) = (k : Int) := by rw [wrap64_small (by omega) (by omega)]; omega
        obtain ⟨ek, ek2, ek3⟩ := idxF k M hkM
        obtain ⟨u, Hu⟩ : ∃ v, Hid (Q.getD k 0 = v) := ⟨_, rfl⟩
        rw [Hu.out] at hk
        have Htr : Hid (trimN Q (k + 1) = if u = 0 then trimN Q k else k + 1) := by show _ = _; rw [trimN, Hu.out]
        obtain ⟨kk, Hkk⟩ : ∃ kk : Int, Hid (((k + 1 : Nat) : Int) = kk) := ⟨_, rfl⟩
        rw [Hkk.out] at wk ⊢
        have pk : 0 < kk := by have := Hkk.out; omega
        by_cases hv : u = 0
        · subst hv
          clear fin
          go_wp2
          refine ⟨⟨k, by omega, by go_num, ?_, trivial⟩, by simp [intOf]; have := Hkk.out; omega⟩
          show _ = _
          rw [← Hm.out, Htr.out, if_pos rfl]
        · have v1 : (u == 0) = false := by simpa using hv
          have v2 : (u != 0) = true := by simpa using hv
          have HR := fin (k + 1) (by show _ = _; rw [← Hm.out, Htr.out, if_neg hv]) hm
          have co := l01Own2_b gq 0 M xs w2 (by rw [HR.out.2]; omega) (by rw [← HR.out.1]; exact ((blkI_fr HB.out).take _).rd)
          rw [HR.out.2] at co
          have n1 : 0 ≤ kk := by omega
          have n2 : kk ≤ (M : Int) := by have := Hkk.out; omega
          have n3 : kk.toNat = k + 1 := by have := Hkk.out; omega
          clear fin hv
          go_wp2_with fail
          refine co.mono ?_
          rintro e w3 ⟨A3, c3, rfl, hown, hb3⟩
          have HF : Hid (FrI w3 w.heap.size A3 xs) := (own_frI hown).mono B2'.out.size
          have B3 : Hid (Below w.heap.size w w3) := B2'.out.trans (hb3.mono B2'.out.size)
          clear hown hb3 co
          go_wp2
          go_ret2
          exact ⟨RetI.mk HF.out HR.out.2 (by rw [← Hv2.out]; rfl), B3.out⟩
  · have Hr2 : Hid ([] = xs) := by show _ = _; rw [← Hr.out, fpOf, hg.out, if_neg (by rw [Hu.out]; exact h)]
    have Hv2 : Hid (u = v) := by show _ = _; rw [← Hv.out, fpOf, hg.out, if_neg (by rw [Hu.out]; exact h), Hu.out]
    have g1 : (u != 0) = true := by simpa using h
    have g2 : (u == 0) = false := by simpa using h
    clear Hr Hv hr hg Hu
    generalize es.length = L at *
    go_enter Try.func27, Try.ntmps27
    go_wp2_with fail
    refine (cg _ (by (repeat' (first | (with_reducible exact Below.refl _ _) | (with_reducible assumption) | (with_reducible refine Below.alloc ?_ ?_ _) | (with_reducible refine Below.drew ?_) | (with_reducible refine below_drewN ?_ _) | (with_reducible refine Below.setCell ?_ ?_ _) | (with_reducible refine Below.trans ?_ (Below.mono (by assumption) ?_)) | (first | omega | (simp only [World.size_alloc, World.size_setCell, World.size_drew]; omega) | (simp; omega) | (simp; done)))))).mono ?_
    rintro e w1 ⟨rfl, hb1⟩
    go_wp2
    go_ret2
    exact ⟨RetI.none Hr2.out.symm (by rw [← Hv2.out]; rfl), by (repeat' (first | (with_reducible exact Below.refl _ _) | (with_reducible assumption) | (with_reducible refine Below.alloc ?_ ?_ _) | (with_reducible refine Below.drew ?_) | (with_reducible refine below_drewN ?_ _) | (with_reducible refine Below.setCell ?_ ?_ _) | (with_reducible refine Below.trans ?_ (Below.mono (by assumption) ?_)) | (first | omega | (simp only [World.size_alloc, World.size_setCell, World.size_drew]; omega) | (simp; omega) | (simp; done))))⟩
end Go.Proofs.Ytkpnplldnihalaa
