/- The reference's FlowerGraph. No statement of the program is proved here. -/
import Derived.Test.YtblidpodbpoaeaaFl1
namespace Go.Proofs.Ytblidpodbpoaeaa
open Go.RowKit
set_option linter.unusedSimpArgs false
set_option linter.unusedVariables false
set_option maxRecDepth 20000

/-- The cells of four edges. -/
theorem blk4_rd {w : World} {t : TypeId} {a b c d : Int × Int} : RdE (w.alloc (.cells #[.int .i64 a.1, .int .i64 a.2, .int .i64 b.1, .int .i64 b.2, .int .i64 c.1, .int .i64 c.2, .int .i64 d.1, .int .i64 d.2] t)) (some ⟨w.heap.size, 0, none⟩) [a, b, c, d] :=
  blkE_rd (t := t) (es := [a, b, c, d]) (Blk.new' _ rfl)

set_option maxHeartbeats 8000000 in
theorem specFlower_3 (w : World) :
    Calls Try.prog 10 #[.int .i64 ((3 : Nat) : Int)] w fun e w' => RetG w' w.heap.size e (4 * ((3 : Nat) : Int)) (madeE (flowB 3 (2 * 3))) 0 ∧ Below w.heap.size w w' := by
  obtain ⟨K, HK⟩ : ∃ K : Nat, Hid (3 = K) := ⟨_, rfl⟩
  obtain ⟨k, Hk⟩ : ∃ k : Int, Hid (((3 : Nat) : Int) = k) := ⟨_, rfl⟩
  have Hkk : Hid ((K : Int) = k) := by show _ = _; have := HK.out; have := Hk.out; omega
  have hk0 : 3 ≤ k ∧ k ≤ 5 := by have := Hk.out; omega
  obtain ⟨hk3, hk5⟩ := hk0
  have g1 : (k != 3) = false := by have := Hk.out; subst this; rfl
  rw [Hk.out, HK.out]
  clear Hk HK
  have nz : ¬ (k = 0) := by omega
  have HK5 : Hid (K ≤ 5) := by show _ ≤ _; have := Hkk.out; omega
  go_enter Try.func10, Try.ntmps10
  go_wp2_with fail
  go_loopw [4, 5] (fun s i wr => ∃ j : Nat, j ≤ K ∧ i = .int .i64 j ∧ Hid (wr.ownsRow (w.heap.size + 1) 54 2 s (4 * j) (cE (flowA K j))) ∧ Hid (Blk wr w.heap.size 24 #[.int .i64 0, .slice none 0 0]) ∧ Hid (Below w.heap.size w wr)) (fun _ i _ => K - (intOf i).toNat)
  case atStart => exact ⟨0, Nat.zero_le _, rfl, own_mono (own_blk (xs := []) (Blk.new' (n := w.heap.size + 1) (t := 54) (cs := #[]) _ (by simp)) (by simp) (by decide)) (Nat.le_refl _), (Blk.new w _ _).alloc _, by show Below _ _ _; (repeat' (first | (with_reducible exact Below.refl _ _) | (with_reducible assumption) | (with_reducible refine Below.alloc ?_ ?_ _) | (with_reducible refine Below.drew ?_) | (with_reducible refine below_drewN ?_ _) | (with_reducible refine Below.setCell ?_ ?_ _) | (with_reducible refine Below.trans ?_ (Below.mono (by assumption) ?_)) | (first | omega | (simp only [World.size_alloc, World.size_setCell, World.size_drew]; omega) | (simp; omega) | (simp; done))))⟩
  case round =>
    obtain ⟨j, hj, rfl, Hown, HZ, Hbel⟩ := hrel
    obtain ⟨A1, c1, rfl⟩ := own_form Hown.out
    have hsz := Hbel.out.size
    by_cases hlt : j < K
    · have hjk : decide ((j : Int) < k) = true := by have := Hkk.out; simp; omega
      obtain ⟨a1, H1⟩ : ∃ a1 : Int, Hid (k + (j : Int) = a1) := ⟨_, rfl⟩
      obtain ⟨a2, H2⟩ : ∃ a1 : Int, Hid (2 * k + (j : Int) = a1) := ⟨_, rfl⟩
      obtain ⟨a3, H3⟩ : ∃ a1 : Int, Hid (3 * k + (j : Int) = a1) := ⟨_, rfl⟩
      obtain ⟨i1, Hi1⟩ : ∃ a1 : Int, Hid ((j : Int) + 1 = a1) := ⟨_, rfl⟩
      obtain ⟨r, Hr⟩ : ∃ a1 : Int, Hid (i1.tmod k = a1) := ⟨_, rfl⟩
      obtain ⟨a4, H4⟩ : ∃ a1 : Int, Hid (k + r = a1) := ⟨_, rfl⟩
      have hr0 : -100 ≤ r ∧ r ≤ 100 := by rw [← Hr.out, ← Hi1.out, Int.tmod_eq_emod_of_nonneg (by omega)]; have h8 := Int.emod_nonneg ((j : Int) + 1) nz; have h9 := Int.emod_lt_of_pos ((j : Int) + 1) (show 0 < k by omega); omega
      have Hf : Hid (flow4 (K : Int) j = [((j : Int), a1), ((j : Int), a2), ((j : Int), a3), (a1, a4)]) := by
        show _ = _
        rw [Hkk.out]; simp only [flow4, H1.out, H2.out, H3.out, Hi1.out, Hr.out, H4.out]
      have p1 : wrap64 (k + (j : Int)) = a1 := by rw [← H1.out]; have := Hkk.out; exact wrap64_small (by omega) (by omega)
      have p2 : wrap64 (2 * k + (j : Int)) = a2 := by rw [← H2.out]; have := Hkk.out; exact wrap64_small (by omega) (by omega)
      have p3 : wrap64 (3 * k + (j : Int)) = a3 := by rw [← H3.out]; have := Hkk.out; exact wrap64_small (by omega) (by omega)
      have p4 : wrap64 ((j : Int) + 1) = i1 := by rw [← Hi1.out]; have := Hkk.out; exact wrap64_small (by omega) (by omega)
      have p5 : i1.tmod k = r := Hr.out
      have p6 : wrap64 (k + r) = a4 := by rw [← H4.out]; exact wrap64_small (by omega) (by omega)
      clear hr0
      have hn : (flowA K j).length = 4 * j := flowA_len K j
      have hown2 := own_below Hown.out (show Below wr.heap.size wr (wr.alloc (.cells #[.int .i64 j, .int .i64 a1, .int .i64 j, .int .i64 a2, .int .i64 j, .int .i64 a3, .int .i64 a1, .int .i64 a4] 54)) by (repeat' (first | (with_reducible exact Below.refl _ _) | (with_reducible assumption) | (with_reducible refine Below.alloc ?_ ?_ _) | (with_reducible refine Below.drew ?_) | (with_reducible refine below_drewN ?_ _) | (with_reducible refine Below.setCell ?_ ?_ _) | (with_reducible refine Below.trans ?_ (Below.mono (by assumption) ?_)) | (first | omega | (simp only [World.size_alloc, World.size_setCell, World.size_drew]; omega) | (simp; omega) | (simp; done)))))
      have hB3 : Below w.heap.size w (wr.alloc (.cells #[.int .i64 j, .int .i64 a1, .int .i64 j, .int .i64 a2, .int .i64 j, .int .i64 a3, .int .i64 a1, .int .i64 a4] 54)) := by have := Hbel.out; (repeat' (first | (with_reducible exact Below.refl _ _) | (with_reducible assumption) | (with_reducible refine Below.alloc ?_ ?_ _) | (with_reducible refine Below.drew ?_) | (with_reducible refine below_drewN ?_ _) | (with_reducible refine Below.setCell ?_ ?_ _) | (with_reducible refine Below.trans ?_ (Below.mono (by assumption) ?_)) | (first | omega | (simp only [World.size_alloc, World.size_setCell, World.size_drew]; omega) | (simp; omega) | (simp; done))))
      have hnew := blk4_rd (w := wr) (t := 54) (a := ((j : Int), a1)) (b := ((j : Int), a2)) (c := ((j : Int), a3)) (d := (a1, a4))
      have hZ3 := HZ.out.alloc (.cells #[.int .i64 j, .int .i64 a1, .int .i64 j, .int .i64 a2, .int .i64 j, .int .i64 a3, .int .i64 a1, .int .i64 a4] 54)
      have zz := HZ.out.lt
      go_wp2_with (first
        | (at_builtin; refine wpList_appendE rfl rfl (w.heap.size + 1) _ (4 * j) (flowA K j) rfl hown2 wr.heap.size 0 4 4 [((j : Int), a1), ((j : Int), a2), ((j : Int), a3), (a1, a4)] rfl rfl hnew (by have := HK5.out; omega) (by omega) (by simp; omega) ?_))
      intro v' w3 hown3 hfr hgr
      have Hb3 : Hid (Below w.heap.size w w3) := hfr w.heap.size w (by omega) hB3
      have HZ3 : Hid (Blk w3 w.heap.size 24 #[.int .i64 0, .slice none 0 0]) := hZ3.below (hfr (w.heap.size + 1) _ (Nat.le_refl _) (Below.refl _ _)) (by omega)
      obtain ⟨g, c2, rfl, hg1, hg2⟩ := own_someI hown3 (by omega)
      have Hown3 : Hid (w3.ownsRow (w.heap.size + 1) 54 2 (.slice (some ⟨g, 0, none⟩) (4 * j + 4) c2) (4 * (j + 1)) (cE (flowA K (j + 1)))) := by
        show World.ownsRow _ _ _ _ _ _ _
        rw [flowA_succ, Hf.out]
        exact hown3
      clear hown3 hfr hgr hown2 hnew hB3 Hown hZ3 HZ Hbel p1 p2 p3 p4 p5 p6
      have hj9 : j ≤ 10 := by have := HK5.out; omega
      go_wp2
      exact ⟨⟨j + 1, by omega, by go_num, Hown3, HZ3, Hb3⟩, by simp [intOf]; omega⟩
    · obtain rfl : j = K := by omega
      have hjk : decide ((j : Int) < k) = false := by have := Hkk.out; simp; omega
      have Hz := HZ; have Hb := Hbel
      have Hown0 : Hid (wr.ownsRow (w.heap.size + 1) 54 2 (.slice A1 (4 * j) c1) (4 * j + 0) (cE (flowB j 0))) := by
        show World.ownsRow _ _ _ _ _ _ _
        rw [flowB_zero]; exact Hown.out
      clear hsz Hown HZ Hbel
      go_wp2_with fail
      go_loopw [4, 6] (fun s i wq => ∃ t : Nat, t ≤ 2 * j ∧ i = .int .i64 t ∧ Hid (wq.ownsRow (w.heap.size + 1) 54 2 s (4 * j + t) (cE (flowB j t))) ∧ Hid (Blk wq w.heap.size 24 #[.int .i64 0, .slice none 0 0]) ∧ Hid (Below w.heap.size w wq)) (fun _ i _ => 2 * j - (intOf i).toNat)
      case atStart => exact ⟨0, Nat.zero_le _, rfl, Hown0, Hz, Hb⟩
      case round =>
        clear Hown0 Hz Hb
        obtain ⟨t, ht, rfl, Hown, HZ, Hbel⟩ := hrel
        obtain ⟨A2, c2, rfl⟩ := own_form Hown.out
        have hsz := Hbel.out.size
        by_cases hlt2 : t < 2 * j
        · have htk : decide ((t : Int) < 2 * k) = true := by have := Hkk.out; simp; omega
          obtain ⟨a1, H1⟩ : ∃ a1 : Int, Hid (2 * k + (t : Int) = a1) := ⟨_, rfl⟩
          obtain ⟨i1, Hi1⟩ : ∃ a1 : Int, Hid ((t : Int) + 1 = a1) := ⟨_, rfl⟩
          obtain ⟨r, Hr⟩ : ∃ a1 : Int, Hid (i1.tmod (2 * k) = a1) := ⟨_, rfl⟩
          obtain ⟨a4, H4⟩ : ∃ a1 : Int, Hid (2 * k + r = a1) := ⟨_, rfl⟩
          have nz2 : ¬ (2 * k = 0) := by omega
          have hr0 : -100 ≤ r ∧ r ≤ 100 := by rw [← Hr.out, ← Hi1.out, Int.tmod_eq_emod_of_nonneg (by omega)]; have h8 := Int.emod_nonneg ((t : Int) + 1) nz2; have h9 := Int.emod_lt_of_pos ((t : Int) + 1) (show 0 < 2 * k by omega); omega
          have Hf : Hid (flow1 (j : Int) t = (a1, a4)) := by
            show _ = _
            rw [Hkk.out]; simp only [flow1, H1.out, Hi1.out, Hr.out, H4.out]
          have p1 : wrap64 (2 * k + (t : Int)) = a1 := by rw [← H1.out]; have := Hkk.out; exact wrap64_small (by omega) (by omega)
          have p4 : wrap64 ((t : Int) + 1) = i1 := by rw [← Hi1.out]; have := Hkk.out; exact wrap64_small (by omega) (by omega)
          have p5 : i1.tmod (2 * k) = r := Hr.out
          have p6 : wrap64 (2 * k + r) = a4 := by rw [← H4.out]; exact wrap64_small (by omega) (by omega)
          clear hr0
          have hown2 := own_below Hown.out (show Below wr.heap.size wr (wr.alloc (.cells #[.int .i64 a1, .int .i64 a4] 54)) by (repeat' (first | (with_reducible exact Below.refl _ _) | (with_reducible assumption) | (with_reducible refine Below.alloc ?_ ?_ _) | (with_reducible refine Below.drew ?_) | (with_reducible refine below_drewN ?_ _) | (with_reducible refine Below.setCell ?_ ?_ _) | (with_reducible refine Below.trans ?_ (Below.mono (by assumption) ?_)) | (first | omega | (simp only [World.size_alloc, World.size_setCell, World.size_drew]; omega) | (simp; omega) | (simp; done)))))
          have hB3 : Below w.heap.size w (wr.alloc (.cells #[.int .i64 a1, .int .i64 a4] 54)) := by have := Hbel.out; (repeat' (first | (with_reducible exact Below.refl _ _) | (with_reducible assumption) | (with_reducible refine Below.alloc ?_ ?_ _) | (with_reducible refine Below.drew ?_) | (with_reducible refine below_drewN ?_ _) | (with_reducible refine Below.setCell ?_ ?_ _) | (with_reducible refine Below.trans ?_ (Below.mono (by assumption) ?_)) | (first | omega | (simp only [World.size_alloc, World.size_setCell, World.size_drew]; omega) | (simp; omega) | (simp; done))))
          have hnew : RdE (wr.alloc (.cells #[.int .i64 a1, .int .i64 a4] 54)) (some ⟨wr.heap.size, 0, none⟩) [(a1, a4)] := blkE_rd (t := 54) (es := [(a1, a4)]) (Blk.new' _ rfl)
          have hZ3 := HZ.out.alloc (.cells #[.int .i64 a1, .int .i64 a4] 54)
          have zz := HZ.out.lt
          go_wp2_with (first
            | (at_builtin; refine wpList_appendE rfl rfl (w.heap.size + 1) _ (4 * j + t) (flowB j t) rfl hown2 wr.heap.size 0 1 1 [(a1, a4)] rfl rfl hnew (by have := HK5.out; omega) (by omega) (by simp; omega) ?_))
          intro v' w3 hown3 hfr hgr
          have Hb3 : Hid (Below w.heap.size w w3) := hfr w.heap.size w (by omega) hB3
          have HZ3 : Hid (Blk w3 w.heap.size 24 #[.int .i64 0, .slice none 0 0]) := hZ3.below (hfr (w.heap.size + 1) _ (Nat.le_refl _) (Below.refl _ _)) (by omega)
          obtain ⟨g, c3, rfl, hg1, hg2⟩ := own_someI hown3 (by omega)
          have Hown3 : Hid (w3.ownsRow (w.heap.size + 1) 54 2 (.slice (some ⟨g, 0, none⟩) (4 * j + t + 1) c3) (4 * j + (t + 1)) (cE (flowB j (t + 1)))) := by
            show World.ownsRow _ _ _ _ _ _ _
            rw [flowB_succ, Hf.out]
            exact hown3
          clear hown3 hfr hgr hown2 hnew hB3 Hown hZ3 HZ Hbel p1 p4 p5 p6 htk
          have ht9 : t ≤ 20 := by have := HK5.out; omega
          go_wp2
          exact ⟨⟨t + 1, by omega, by go_num, Hown3, HZ3, Hb3⟩, by simp [intOf]; omega⟩
        · obtain rfl : t = 2 * j := by omega
          have htk : decide (((2 * j : Nat) : Int) < 2 * k) = false := by have := Hkk.out; simp; omega
          have hlen : (flowB j (2 * j)).length = 4 * j + 2 * j := flowB_len j (2 * j)
          have hrd := own_rdE Hown.out
          have cm := l01Made_b (4 * k) A2 c2 (flowB j (2 * j)) wr (by rw [hlen]; have := HK5.out; omega) hrd
          rw [hlen] at cm
          have zz := HZ.out.lt
          go_wp2_with fail
          refine cm.mono ?_
          rintro e w4 ⟨A3, c3, rfl, hF, hb4⟩
          have hZ4 := HZ.out.below hb4 zz
          have k0 := hZ4.cellAt 0 _ rfl
          have k1 : (w4.setCell ⟨w.heap.size, 0, none⟩ (.int .i64 (4 * k))).cell? ⟨w.heap.size, 1, none⟩ = some (.slice none 0 0) := (sc_other (by simp)).trans (hZ4.cellAt 1 _ rfl)
          have f0 := hZ4.frozen 0
          have f1 := hZ4.frozen 1
          have HZ4 := Lib.hid hZ4
          have HF := Lib.hid hF
          have Hb4 : Hid (Below w.heap.size w w4) := Hbel.out.trans (hb4.mono hsz)
          clear hZ4 hF hb4 cm hrd HZ Hown Hbel htk hjk
          go_wp2
          refine ret_cell_tmp Try.results10 Try.underlying24 rfl (by kernel_rfl) rfl ((HZ4.out.set_ 0 (.int .i64 (4 * k))).set_ 1 (.slice A3 (4 * j + 2 * j) c3)) rfl rfl ⟨⟨A3, c3, ?_, FrE.mono (n0 := wr.heap.size) ?_ hsz⟩, (Hb4.out.setCell (Nat.le_refl _) _).setCell (Nat.le_refl _) _⟩
          · rw [madeE_len, hlen]; rfl
          · exact HF.out.away (((Only.refl _ _).set 0 _).set 1 _ : Only (some ⟨w.heap.size, 0, none⟩) w4 _) zz
set_option maxHeartbeats 8000000 in
theorem specFlower_5 (w : World) :
    Calls Try.prog 10 #[.int .i64 ((5 : Nat) : Int)] w fun e w' => RetG w' w.heap.size e (4 * ((5 : Nat) : Int)) (madeE (flowB 5 (2 * 5))) 0 ∧ Below w.heap.size w w' := by
  obtain ⟨K, HK⟩ : ∃ K : Nat, Hid (5 = K) := ⟨_, rfl⟩
  obtain ⟨k, Hk⟩ : ∃ k : Int, Hid (((5 : Nat) : Int) = k) := ⟨_, rfl⟩
  have Hkk : Hid ((K : Int) = k) := by show _ = _; have := HK.out; have := Hk.out; omega
  have hk0 : 3 ≤ k ∧ k ≤ 5 := by have := Hk.out; omega
  obtain ⟨hk3, hk5⟩ := hk0
  have g1 : (k != 3) = true := by { have := Hk.out; subst this; rfl }; have g2 : (k != 5) = false := by { have := Hk.out; subst this; rfl }
  rw [Hk.out, HK.out]
  clear Hk HK
  have nz : ¬ (k = 0) := by omega
  have HK5 : Hid (K ≤ 5) := by show _ ≤ _; have := Hkk.out; omega
  go_enter Try.func10, Try.ntmps10
  go_wp2_with fail
  go_loopw [4, 5] (fun s i wr => ∃ j : Nat, j ≤ K ∧ i = .int .i64 j ∧ Hid (wr.ownsRow (w.heap.size + 1) 54 2 s (4 * j) (cE (flowA K j))) ∧ Hid (Blk wr w.heap.size 24 #[.int .i64 0, .slice none 0 0]) ∧ Hid (Below w.heap.size w wr)) (fun _ i _ => K - (intOf i).toNat)
  case atStart => exact ⟨0, Nat.zero_le _, rfl, own_mono (own_blk (xs := []) (Blk.new' (n := w.heap.size + 1) (t := 54) (cs := #[]) _ (by simp)) (by simp) (by decide)) (Nat.le_refl _), (Blk.new w _ _).alloc _, by show Below _ _ _; (repeat' (first | (with_reducible exact Below.refl _ _) | (with_reducible assumption) | (with_reducible refine Below.alloc ?_ ?_ _) | (with_reducible refine Below.drew ?_) | (with_reducible refine below_drewN ?_ _) | (with_reducible refine Below.setCell ?_ ?_ _) | (with_reducible refine Below.trans ?_ (Below.mono (by assumption) ?_)) | (first | omega | (simp only [World.size_alloc, World.size_setCell, World.size_drew]; omega) | (simp; omega) | (simp; done))))⟩
  case round =>
    obtain ⟨j, hj, rfl, Hown, HZ, Hbel⟩ := hrel
    obtain ⟨A1, c1, rfl⟩ := own_form Hown.out
    have hsz := Hbel.out.size
    by_cases hlt : j < K
    · have hjk : decide ((j : Int) < k) = true := by have := Hkk.out; simp; omega
      obtain ⟨a1, H1⟩ : ∃ a1 : Int, Hid (k + (j : Int) = a1) := ⟨_, rfl⟩
      obtain ⟨a2, H2⟩ : ∃ a1 : Int, Hid (2 * k + (j : Int) = a1) := ⟨_, rfl⟩
      obtain ⟨a3, H3⟩ : ∃ a1 : Int, Hid (3 * k + (j : Int) = a1) := ⟨_, rfl⟩
      obtain ⟨i1, Hi1⟩ : ∃ a1 : Int, Hid ((j : Int) + 1 = a1) := ⟨_, rfl⟩
      obtain ⟨r, Hr⟩ : ∃ a1 : Int, Hid (i1.tmod k = a1) := ⟨_, rfl⟩
      obtain ⟨a4, H4⟩ : ∃ a1 : Int, Hid (k + r = a1) := ⟨_, rfl⟩
      have hr0 : -100 ≤ r ∧ r ≤ 100 := by rw [← Hr.out, ← Hi1.out, Int.tmod_eq_emod_of_nonneg (by omega)]; have h8 := Int.emod_nonneg ((j : Int) + 1) nz; have h9 := Int.emod_lt_of_pos ((j : Int) + 1) (show 0 < k by omega); omega
      have Hf : Hid (flow4 (K : Int) j = [((j : Int), a1), ((j : Int), a2), ((j : Int), a3), (a1, a4)]) := by
        show _ = _
        rw [Hkk.out]; simp only [flow4, H1.out, H2.out, H3.out, Hi1.out, Hr.out, H4.out]
      have p1 : wrap64 (k + (j : Int)) = a1 := by rw [← H1.out]; have := Hkk.out; exact wrap64_small (by omega) (by omega)
      have p2 : wrap64 (2 * k + (j : Int)) = a2 := by rw [← H2.out]; have := Hkk.out; exact wrap64_small (by omega) (by omega)
      have p3 : wrap64 (3 * k + (j : Int)) = a3 := by rw [← H3.out]; have := Hkk.out; exact wrap64_small (by omega) (by omega)
      have p4 : wrap64 ((j : Int) + 1) = i1 := by rw [← Hi1.out]; have := Hkk.out; exact wrap64_small (by omega) (by omega)
      have p5 : i1.tmod k = r := Hr.out
      have p6 : wrap64 (k + r) = a4 := by rw [← H4.out]; exact wrap64_small (by omega) (by omega)
      clear hr0
      have hn : (flowA K j).length = 4 * j := flowA_len K j
      have hown2 := own_below Hown.out (show Below wr.heap.size wr (wr.alloc (.cells #[.int .i64 j, .int .i64 a1, .int .i64 j, .int .i64 a2, .int .i64 j, .int .i64 a3, .int .i64 a1, .int .i64 a4] 54)) by (repeat' (first | (with_reducible exact Below.refl _ _) | (with_reducible assumption) | (with_reducible refine Below.alloc ?_ ?_ _) | (with_reducible refine Below.drew ?_) | (with_reducible refine below_drewN ?_ _) | (with_reducible refine Below.setCell ?_ ?_ _) | (with_reducible refine Below.trans ?_ (Below.mono (by assumption) ?_)) | (first | omega | (simp only [World.size_alloc, World.size_setCell, World.size_drew]; omega) | (simp; omega) | (simp; done)))))
      have hB3 : Below w.heap.size w (wr.alloc (.cells #[.int .i64 j, .int .i64 a1, .int .i64 j, .int .i64 a2, .int .i64 j, .int .i64 a3, .int .i64 a1, .int .i64 a4] 54)) := by have := Hbel.out; (repeat' (first | (with_reducible exact Below.refl _ _) | (with_reducible assumption) | (with_reducible refine Below.alloc ?_ ?_ _) | (with_reducible refine Below.drew ?_) | (with_reducible refine below_drewN ?_ _) | (with_reducible refine Below.setCell ?_ ?_ _) | (with_reducible refine Below.trans ?_ (Below.mono (by assumption) ?_)) | (first | omega | (simp only [World.size_alloc, World.size_setCell, World.size_drew]; omega) | (simp; omega) | (simp; done))))
      have hnew := blk4_rd (w := wr) (t := 54) (a := ((j : Int), a1)) (b := ((j : Int), a2)) (c := ((j : Int), a3)) (d := (a1, a4))
      have hZ3 := HZ.out.alloc (.cells #[.int .i64 j, .int .i64 a1, .int .i64 j, .int .i64 a2, .int .i64 j, .int .i64 a3, .int .i64 a1, .int .i64 a4] 54)
      have zz := HZ.out.lt
      go_wp2_with (first
        | (at_builtin; refine wpList_appendE rfl rfl (w.heap.size + 1) _ (4 * j) (flowA K j) rfl hown2 wr.heap.size 0 4 4 [((j : Int), a1), ((j : Int), a2), ((j : Int), a3), (a1, a4)] rfl rfl hnew (by have := HK5.out; omega) (by omega) (by simp; omega) ?_))
      intro v' w3 hown3 hfr hgr
      have Hb3 : Hid (Below w.heap.size w w3) := hfr w.heap.size w (by omega) hB3
      have HZ3 : Hid (Blk w3 w.heap.size 24 #[.int .i64 0, .slice none 0 0]) := hZ3.below (hfr (w.heap.size + 1) _ (Nat.le_refl _) (Below.refl _ _)) (by omega)
      obtain ⟨g, c2, rfl, hg1, hg2⟩ := own_someI hown3 (by omega)
      have Hown3 : Hid (w3.ownsRow (w.heap.size + 1) 54 2 (.slice (some ⟨g, 0, none⟩) (4 * j + 4) c2) (4 * (j + 1)) (cE (flowA K (j + 1)))) := by
        show World.ownsRow _ _ _ _ _ _ _
        rw [flowA_succ, Hf.out]
        exact hown3
      clear hown3 hfr hgr hown2 hnew hB3 Hown hZ3 HZ Hbel p1 p2 p3 p4 p5 p6
      have hj9 : j ≤ 10 := by have := HK5.out; omega
      go_wp2
      exact ⟨⟨j + 1, by omega, by go_num, Hown3, HZ3, Hb3⟩, by simp [intOf]; omega⟩
    · obtain rfl : j = K := by omega
      have hjk : decide ((j : Int) < k) = false := by have := Hkk.out; simp; omega
      have Hz := HZ; have Hb := Hbel
      have Hown0 : Hid (wr.ownsRow (w.heap.size + 1) 54 2 (.slice A1 (4 * j) c1) (4 * j + 0) (cE (flowB j 0))) := by
        show World.ownsRow _ _ _ _ _ _ _
        rw [flowB_zero]; exact Hown.out
      clear hsz Hown HZ Hbel
      go_wp2_with fail
      go_loopw [4, 6] (fun s i wq => ∃ t : Nat, t ≤ 2 * j ∧ i = .int .i64 t ∧ Hid (wq.ownsRow (w.heap.size + 1) 54 2 s (4 * j + t) (cE (flowB j t))) ∧ Hid (Blk wq w.heap.size 24 #[.int .i64 0, .slice none 0 0]) ∧ Hid (Below w.heap.size w wq)) (fun _ i _ => 2 * j - (intOf i).toNat)
      case atStart => exact ⟨0, Nat.zero_le _, rfl, Hown0, Hz, Hb⟩
      case round =>
        clear Hown0 Hz Hb
        obtain ⟨t, ht, rfl, Hown, HZ, Hbel⟩ := hrel
        obtain ⟨A2, c2, rfl⟩ := own_form Hown.out
        have hsz := Hbel.out.size
        by_cases hlt2 : t < 2 * j
        · have htk : decide ((t : Int) < 2 * k) = true := by have := Hkk.out; simp; omega
          obtain ⟨a1, H1⟩ : ∃ a1 : Int, Hid (2 * k + (t : Int) = a1) := ⟨_, rfl⟩
          obtain ⟨i1, Hi1⟩ : ∃ a1 : Int, Hid ((t : Int) + 1 = a1) := ⟨_, rfl⟩
          obtain ⟨r, Hr⟩ : ∃ a1 : Int, Hid (i1.tmod (2 * k) = a1) := ⟨_, rfl⟩
          obtain ⟨a4, H4⟩ : ∃ a1 : Int, Hid (2 * k + r = a1) := ⟨_, rfl⟩
          have nz2 : ¬ (2 * k = 0) := by omega
          have hr0 : -100 ≤ r ∧ r ≤ 100 := by rw [← Hr.out, ← Hi1.out, Int.tmod_eq_emod_of_nonneg (by omega)]; have h8 := Int.emod_nonneg ((t : Int) + 1) nz2; have h9 := Int.emod_lt_of_pos ((t : Int) + 1) (show 0 < 2 * k by omega); omega
          have Hf : Hid (flow1 (j : Int) t = (a1, a4)) := by
            show _ = _
            rw [Hkk.out]; simp only [flow1, H1.out, Hi1.out, Hr.out, H4.out]
          have p1 : wrap64 (2 * k + (t : Int)) = a1 := by rw [← H1.out]; have := Hkk.out; exact wrap64_small (by omega) (by omega)
          have p4 : wrap64 ((t : Int) + 1) = i1 := by rw [← Hi1.out]; have := Hkk.out; exact wrap64_small (by omega) (by omega)
          have p5 : i1.tmod (2 * k) = r := Hr.out
          have p6 : wrap64 (2 * k + r) = a4 := by rw [← H4.out]; exact wrap64_small (by omega) (by omega)
          clear hr0
          have hown2 := own_below Hown.out (show Below wr.heap.size wr (wr.alloc (.cells #[.int .i64 a1, .int .i64 a4] 54)) by (repeat' (first | (with_reducible exact Below.refl _ _) | (with_reducible assumption) | (with_reducible refine Below.alloc ?_ ?_ _) | (with_reducible refine Below.drew ?_) | (with_reducible refine below_drewN ?_ _) | (with_reducible refine Below.setCell ?_ ?_ _) | (with_reducible refine Below.trans ?_ (Below.mono (by assumption) ?_)) | (first | omega | (simp only [World.size_alloc, World.size_setCell, World.size_drew]; omega) | (simp; omega) | (simp; done)))))
          have hB3 : Below w.heap.size w (wr.alloc (.cells #[.int .i64 a1, .int .i64 a4] 54)) := by have := Hbel.out; (repeat' (first | (with_reducible exact Below.refl _ _) | (with_reducible assumption) | (with_reducible refine Below.alloc ?_ ?_ _) | (with_reducible refine Below.drew ?_) | (with_reducible refine below_drewN ?_ _) | (with_reducible refine Below.setCell ?_ ?_ _) | (with_reducible refine Below.trans ?_ (Below.mono (by assumption) ?_)) | (first | omega | (simp only [World.size_alloc, World.size_setCell, World.size_drew]; omega) | (simp; omega) | (simp; done))))
          have hnew : RdE (wr.alloc (.cells #[.int .i64 a1, .int .i64 a4] 54)) (some ⟨wr.heap.size, 0, none⟩) [(a1, a4)] := blkE_rd (t := 54) (es := [(a1, a4)]) (Blk.new' _ rfl)
          have hZ3 := HZ.out.alloc (.cells #[.int .i64 a1, .int .i64 a4] 54)
          have zz := HZ.out.lt
          go_wp2_with (first
            | (at_builtin; refine wpList_appendE rfl rfl (w.heap.size + 1) _ (4 * j + t) (flowB j t) rfl hown2 wr.heap.size 0 1 1 [(a1, a4)] rfl rfl hnew (by have := HK5.out; omega) (by omega) (by simp; omega) ?_))
          intro v' w3 hown3 hfr hgr
          have Hb3 : Hid (Below w.heap.size w w3) := hfr w.heap.size w (by omega) hB3
          have HZ3 : Hid (Blk w3 w.heap.size 24 #[.int .i64 0, .slice none 0 0]) := hZ3.below (hfr (w.heap.size + 1) _ (Nat.le_refl _) (Below.refl _ _)) (by omega)
          obtain ⟨g, c3, rfl, hg1, hg2⟩ := own_someI hown3 (by omega)
          have Hown3 : Hid (w3.ownsRow (w.heap.size + 1) 54 2 (.slice (some ⟨g, 0, none⟩) (4 * j + t + 1) c3) (4 * j + (t + 1)) (cE (flowB j (t + 1)))) := by
            show World.ownsRow _ _ _ _ _ _ _
            rw [flowB_succ, Hf.out]
            exact hown3
          clear hown3 hfr hgr hown2 hnew hB3 Hown hZ3 HZ Hbel p1 p4 p5 p6 htk
          have ht9 : t ≤ 20 := by have := HK5.out; omega
          go_wp2
          exact ⟨⟨t + 1, by omega, by go_num, Hown3, HZ3, Hb3⟩, by simp [intOf]; omega⟩
        · obtain rfl : t = 2 * j := by omega
          have htk : decide (((2 * j : Nat) : Int) < 2 * k) = false := by have := Hkk.out; simp; omega
          have hlen : (flowB j (2 * j)).length = 4 * j + 2 * j := flowB_len j (2 * j)
          have hrd := own_rdE Hown.out
          have cm := l01Made_b (4 * k) A2 c2 (flowB j (2 * j)) wr (by rw [hlen]; have := HK5.out; omega) hrd
          rw [hlen] at cm
          have zz := HZ.out.lt
          go_wp2_with fail
          refine cm.mono ?_
          rintro e w4 ⟨A3, c3, rfl, hF, hb4⟩
          have hZ4 := HZ.out.below hb4 zz
          have k0 := hZ4.cellAt 0 _ rfl
          have k1 : (w4.setCell ⟨w.heap.size, 0, none⟩ (.int .i64 (4 * k))).cell? ⟨w.heap.size, 1, none⟩ = some (.slice none 0 0) := (sc_other (by simp)).trans (hZ4.cellAt 1 _ rfl)
          have f0 := hZ4.frozen 0
          have f1 := hZ4.frozen 1
          have HZ4 := Lib.hid hZ4
          have HF := Lib.hid hF
          have Hb4 : Hid (Below w.heap.size w w4) := Hbel.out.trans (hb4.mono hsz)
          clear hZ4 hF hb4 cm hrd HZ Hown Hbel htk hjk
          go_wp2
          refine ret_cell_tmp Try.results10 Try.underlying24 rfl (by kernel_rfl) rfl ((HZ4.out.set_ 0 (.int .i64 (4 * k))).set_ 1 (.slice A3 (4 * j + 2 * j) c3)) rfl rfl ⟨⟨A3, c3, ?_, FrE.mono (n0 := wr.heap.size) ?_ hsz⟩, (Hb4.out.setCell (Nat.le_refl _) _).setCell (Nat.le_refl _) _⟩
          · rw [madeE_len, hlen]; rfl
          · exact HF.out.away (((Only.refl _ _).set 0 _).set 1 _ : Only (some ⟨w.heap.size, 0, none⟩) w4 _) zz
end Go.Proofs.Ytblidpodbpoaeaa
