/- The program's polynomial: the walk. -/
import Derived.Test.YtkpnplldnihalaaFp1
namespace Go.Proofs.Ytkpnplldnihalaa
open Go.RowKit
set_option linter.unusedSimpArgs false
set_option linter.unusedVariables false
set_option maxRecDepth 20000

theorem FrI.take {w : World} {n0 : Nat} {A : Option Addr} {xs : List Int} (h : FrI w n0 A xs) (m : Nat) : FrI w n0 A (xs.take m) := by
  rcases h with rfl | ⟨b, off, e, h1, hlt, hf, hc⟩
  · exact .inl (by simp)
  · refine .inr ⟨b, off, e, h1, hlt, hf, fun j hj => ?_⟩
    rw [List.length_take] at hj
    have e2 : (xs.take m).getD j 0 = xs.getD j 0 := by simp [List.getD, List.getElem?_take_of_lt (show j < m by omega)]
    rw [e2]; exact hc j (by omega)

set_option maxHeartbeats 4000000 in
theorem polynomial_b (N : Nat) (A : Option Addr) (c : Nat) (es : List (Int × Int)) (w : World) (P : List Int) (HP : Hid (polyV N es = P)) (hN : 1 ≤ N) (hN2 : N ≤ 100) (hl : es.length ≤ 100) (hin : Hid (InN N es)) (hr : RdE w A es) :
    Calls Try.prog 64 #[.agg #[.int .i64 N, .slice A es.length c]] w fun e w' => e = .returned (.slice (some ⟨w.heap.size + 1, 0, none⟩) P.length P.length) ∧ FrI w' w.heap.size (some ⟨w.heap.size + 1, 0, none⟩) P ∧ Below w.heap.size w w' := by
  have hmf : ∀ (fn : Fn) (first cap : Array Value) (w : World), (Instr.makeFunc fn first cap).run Try.prog w = .ok (.func fn first cap) w := fun _ _ _ _ => rfl
  obtain ⟨M, HM⟩ : ∃ M, Hid (es.length + 1 = M) := ⟨_, rfl⟩
  have hM1 : M ≤ 101 := by have := HM.out; omega
  have hmk := mk_row Try.underlying36 infoI M (by omega) (by omega)
  simp only [made_int] at hmk
  have ce := fun (W : World) (hW : Hid (Below (w.heap.size + 1) W W)) (hg : w.heap.size + 1 < W.heap.size) (hre : Hid (∀ W', Below (w.heap.size + 1) W W' → RdE W' A es)) (hI : Hid (InvP w.heap.size N A es.length c W (List.replicate M 0))) =>
    expanded_b (InvP w.heap.size N A es.length c) (stepP es.length N) (w.heap.size + 1) N A c es 102 #[.pointer (some ⟨w.heap.size + 2, 0, none⟩), .pointer (some ⟨w.heap.size, 0, none⟩)] (w.heap.size + 1) W W (List.replicate M 0)
      hN hN2 hl hin hre ent_poly1 (Nat.le_refl _) hg (fun W W' acc h1 h2 => h1.keep h2)
      (fun W acc k s hW hg hok hI => poly1_b w.heap.size N A es.length c W acc k s hok (by omega) (by omega) hI) hI hW
  obtain ⟨Q, HQ⟩ : ∃ Q, Hid (polyC N es = Q) := ⟨_, rfl⟩
  have hq : (leafs false es es.length 0 (idx N) 0 N).foldl (stepP es.length N) (List.replicate M 0) = Q := by rw [← HQ.out, polyC, HM.out]
  simp only [hq] at ce
  have HQl : Hid (Q.length = M) := by show _ = _; rw [← HQ.out, polyC_len, HM.out]
  have HP2 : Hid (P = Q.take (trimN Q M)) := by show _ = _; rw [← HP.out, polyV, HQ.out, HM.out]
  have Hre : Hid (∀ W, Below w.heap.size w W → RdE W A es) := fun W hW => hr.below hW
  have HCE := Lib.hid ce
  have wM : wrap64 ((es.length : Int) + 1) = (M : Int) := by rw [wrap64_small (by omega) (by omega)]; have := HM.out; omega
  clear ce hq HQ HP hin hr hl
  obtain ⟨L, HL⟩ : ∃ L, Hid (es.length = L) := ⟨_, rfl⟩
  rw [HL.out] at wM HM HCE
  rw [HL.out]
  go_enter Try.func64, Try.ntmps64
  go_wp2_with fail
  refine (HCE.out _ ?_ ?_ ?_ ?_).mono ?_
  · show Below _ _ _; (repeat' (first | (with_reducible exact Below.refl _ _) | (with_reducible assumption) | (with_reducible refine Below.alloc ?_ ?_ _) | (with_reducible refine Below.drew ?_) | (with_reducible refine below_drewN ?_ _) | (with_reducible refine Below.setCell ?_ ?_ _) | (with_reducible refine Below.trans ?_ (Below.mono (by assumption) ?_)) | (first | omega | (simp only [World.size_alloc, World.size_setCell, World.size_drew]; omega) | (simp; omega) | (simp; done))))
  · simp
  · show ∀ W', _
    intro W' hW'
    exact Hre.out _ ((show Below w.heap.size w _ by (repeat' (first | (with_reducible exact Below.refl _ _) | (with_reducible assumption) | (with_reducible refine Below.alloc ?_ ?_ _) | (with_reducible refine Below.drew ?_) | (with_reducible refine below_drewN ?_ _) | (with_reducible refine Below.setCell ?_ ?_ _) | (with_reducible refine Below.trans ?_ (Below.mono (by assumption) ?_)) | (first | omega | (simp only [World.size_alloc, World.size_setCell, World.size_drew]; omega) | (simp; omega) | (simp; done))))).trans (hW'.mono (by omega)))
  · show InvP _ _ _ _ _ _ _
    refine ⟨by simp, ?_, ?_, ?_, ?_, ?_⟩
    · exact (((Blk.new w _ _).alloc _).alloc _).cellAt 0 _ rfl
    · exact (((Blk.new w _ _).alloc _).alloc _).cellAt 1 _ rfl
    · rw [HM.out]; exact (Blk.new' (n := w.heap.size + 2) _ (by simp)).cellAt 0 _ rfl
    · exact (Blk.new' (n := w.heap.size + 1) _ (by simp)).alloc _
    · rw [List.length_replicate, HM.out]
  · rintro e w1 ⟨rfl, hs, hb1, hI⟩
    have c2 := hI.c2
    rw [HM.out] at c2
    have HB := Lib.hid hI.blk
    have B1 : Hid (Below w.heap.size w w1) := (show Below w.heap.size w _ by (repeat' (first | (with_reducible exact Below.refl _ _) | (with_reducible assumption) | (with_reducible refine Below.alloc ?_ ?_ _) | (with_reducible refine Below.drew ?_) | (with_reducible refine below_drewN ?_ _) | (with_reducible refine Below.setCell ?_ ?_ _) | (with_reducible refine Below.trans ?_ (Below.mono (by assumption) ?_)) | (first | omega | (simp only [World.size_alloc, World.size_setCell, World.size_drew]; omega) | (simp; omega) | (simp; done))))).trans (hb1.mono (by omega))
    clear hI hs hb1 hmk wM
    go_wp2
    go_loopw [4] (fun s wr => ∃ m : Nat, m ≤ M ∧ s = .int .i64 m ∧ Hid (trimN Q m = trimN Q M) ∧ w1 = wr) (fun s _ => (intOf s).toNat)
    case atStart => exact ⟨M, Nat.le_refl _, rfl, rfl, rfl⟩
    case round =>
      obtain ⟨m, hm, rfl, Hm, rfl⟩ := hrel
      rcases Nat.eq_zero_or_pos m with h0 | hpos
      · subst h0
        have HR : Hid (P = []) := by show _ = _; rw [HP2.out, ← Hm.out]; rfl
        go_wp2
        go_ret
        exact ⟨by rw [HR.out]; rfl, .inl HR.out, B1.out⟩
      · obtain ⟨k, rfl⟩ : ∃ k, m = k + 1 := ⟨m - 1, by omega⟩
        have hk := blkI_cell HB.out (j := k) (by rw [HQl.out]; omega)
        have wk : wrap64 (((k + 1 : Nat) : Int) - 1) = (k : Int) := by rw [wrap64_small (by omega) (by omega)]; omega
        obtain ⟨ek, ek2, ek3⟩ := idxF k M (by omega)
        obtain ⟨v, Hv⟩ : ∃ v, Hid (Q.getD k 0 = v) := ⟨_, rfl⟩
        rw [Hv.out] at hk
        have Htr : Hid (trimN Q (k + 1) = if v = 0 then trimN Q k else k + 1) := by show _ = _; rw [trimN, Hv.out]
        obtain ⟨kk, Hkk⟩ : ∃ kk : Int, Hid (((k + 1 : Nat) : Int) = kk) := ⟨_, rfl⟩
        rw [Hkk.out] at wk ⊢
        have pk : 0 < kk := by have := Hkk.out; omega
        by_cases hv : v = 0
        · subst hv
          go_wp2
          refine ⟨⟨k, by omega, by go_num, ?_, trivial⟩, by simp [intOf]; have := Hkk.out; omega⟩
          show _ = _
          rw [← Hm.out, Htr.out, if_pos rfl]
        · have v1 : (v == 0) = false := by simpa using hv
          have v2 : (v != 0) = true := by simpa using hv
          have HR : Hid (P = Q.take (k + 1)) := by show _ = _; rw [HP2.out, ← Hm.out, Htr.out, if_neg hv]
          have HRl : Hid (P.length = k + 1) := by show _ = _; rw [HR.out, List.length_take, HQl.out]; omega
          have n1 : 0 ≤ kk := by omega
          have n2 : kk ≤ (M : Int) := by have := Hkk.out; omega
          have n3 : kk.toNat = k + 1 := by have := Hkk.out; omega
          clear hv
          go_wp2
          go_ret
          refine ⟨by rw [HRl.out]; rfl, ?_, B1.out⟩
          rw [HR.out]
          exact ((blkI_fr HB.out).mono (by omega)).take _
end Go.Proofs.Ytkpnplldnihalaa
