/- The function values of impl.DotProduct. No statement of the program is proved here. -/
import Derived.Test.YtjgmoffkecnmcaaGreatDq1
import Derived.Test.YtjgmoffkecnmcaaGreatCd
import Derived.Test.YtjgmoffkecnmcaaGreatWo4
namespace Go.Proofs.YtjgmoffkecnmcaaGreat
open Go.RowKit
set_option linter.unusedSimpArgs false
set_option linter.unusedVariables false
set_option maxRecDepth 20000

theorem ent_dot1 : Ent 36 := enters_of Tryz.func36 (by kernel_rfl) rfl
theorem ent_dot2 : Ent 40 := enters_of Tryz.func40 (by kernel_rfl) rfl

set_option maxHeartbeats 4000000 in
theorem dot1_b (gg ge gf gh ga gb : Nat) (n : Int) (A : Option Addr) (L c : Nat) (e f m : Int) (B : Option Addr) (M d : Nat) (a b : Int) (w : World) (hL : L ≤ 1048576) (qe qf qa qb : Bool) (h1 : Hid (inB e 0 ((L : Int) - 1) = qe)) (h2 : Hid (inB f 0 ((L : Int) - 1) = qf)) (h3 : Hid (inB a 0 (wrap64 (m - 1)) = qa)) (h4 : Hid (inB b 0 (wrap64 (m - 1)) = qb)) (kg : Blk w gg 28 #[.int .i64 n, .slice A L c]) (ke : Blk w ge 2 #[.int .i64 e]) (kf : Blk w gf 2 #[.int .i64 f]) (kh : Blk w gh 28 #[.int .i64 m, .slice B M d]) (ka : Blk w ga 2 #[.int .i64 a]) (kb : Blk w gb 2 #[.int .i64 b]) :
    Calls Tryz.prog 36 #[.pointer (some ⟨gg, 0, none⟩), .pointer (some ⟨ge, 0, none⟩), .pointer (some ⟨gf, 0, none⟩), .pointer (some ⟨gh, 0, none⟩), .pointer (some ⟨ga, 0, none⟩), .pointer (some ⟨gb, 0, none⟩)] w fun e' w' => e' = .returned (.bool (qe && (qf && (qa && qb)))) ∧ Below w.heap.size w w' := by
  have c1 := Lib.hid fun W => isEdge_b n A L c e W qe h1 hL
  have c2 := Lib.hid fun W => isEdge_b n A L c f W qf h2 hL
  have c3 := Lib.hid fun W => isVertex_b m B M d a W qa h3
  have c4 := Lib.hid fun W => isVertex_b m B M d b W qb h4
  have Kg := Lib.hid kg
  have Ke := Lib.hid ke
  have Kf := Lib.hid kf
  have Kh := Lib.hid kh
  have Ka := Lib.hid ka
  have Kb := Lib.hid kb
  clear h1 h2 h3 h4 kg ke kf kh ka kb
  have B0 : Below w.heap.size w w := Below.refl _ _
  have u0 := (Kg.out.below B0 Kg.out.lt).cellAt 0 _ rfl
  have u1 := (Kg.out.below B0 Kg.out.lt).cellAt 1 _ rfl
  have u2 := (Ke.out.below B0 Ke.out.lt).cellAt 0 _ rfl
  go_enter Tryz.func36, Tryz.ntmps36
  go_wp2_with fail
  refine (c1.out _).mono ?_
  rintro e9 w1 ⟨rfl, hb1⟩
  have B1 : Below w.heap.size w w1 := hb1
  clear u0 u1 u2 hb1 B0
  cases qe
  · go_wp2
    go_ret
    exact ⟨rfl, B1⟩
  · have u0 := (Kg.out.below B1 Kg.out.lt).cellAt 0 _ rfl
    have u1 := (Kg.out.below B1 Kg.out.lt).cellAt 1 _ rfl
    have u2 := (Kf.out.below B1 Kf.out.lt).cellAt 0 _ rfl
    go_wp2_with fail
    refine (c2.out _).mono ?_
    rintro e9 w2 ⟨rfl, hb2⟩
    have B2 : Below w.heap.size w w2 := B1.trans (hb2.mono B1.size)
    clear u0 u1 u2 hb2
    cases qf
    · go_wp2
      go_ret
      exact ⟨rfl, B2⟩
    · have u0 := (Kh.out.below B2 Kh.out.lt).cellAt 0 _ rfl
      have u1 := (Kh.out.below B2 Kh.out.lt).cellAt 1 _ rfl
      have u2 := (Ka.out.below B2 Ka.out.lt).cellAt 0 _ rfl
      go_wp2_with fail
      refine (c3.out _).mono ?_
      rintro e9 w3 ⟨rfl, hb3⟩
      have B3 : Below w.heap.size w w3 := B2.trans (hb3.mono B2.size)
      clear u0 u1 u2 hb3
      cases qa
      · go_wp2
        go_ret
        exact ⟨rfl, B3⟩
      · have u0 := (Kh.out.below B3 Kh.out.lt).cellAt 0 _ rfl
        have u1 := (Kh.out.below B3 Kh.out.lt).cellAt 1 _ rfl
        have u2 := (Kb.out.below B3 Kb.out.lt).cellAt 0 _ rfl
        go_wp2_with fail
        refine (c4.out _).mono ?_
        rintro e9 w4 ⟨rfl, hb4⟩
        have B4 : Below w.heap.size w w4 := B3.trans (hb4.mono B3.size)
        clear u0 u1 u2 hb4
        go_wp2
        go_ret
        exact ⟨rfl, B4⟩

set_option maxHeartbeats 16000000 in
theorem dot2_b (gg ge gf gh ga gb g1 g2 : Nat) (n : Int) (A : Option Addr) (c : Nat) (es : List (Int × Int)) (e f m : Int) (B : Option Addr) (d : Nat) (hs : List (Int × Int)) (a b : Nat) (x0 x1 y0 y1 : Int) (p0 p1 p2 p3 : Nat) (N : Nat) (w : World) (hl1 : es.length ≤ 1000) (hl2 : hs.length ≤ 1000) (hr1 : RdE w A es) (hr2 : RdE w B hs) (hN : N ≤ 60) (hin : InN N hs) (hab : a < 60 ∧ b < 60) (hn : 0 ≤ n ∧ n ≤ 60) (hp : (p0 < 60 ∧ p1 < 60) ∧ (p2 < 60 ∧ p3 < 60)) (hUA : upI (butL hs a b) = [(p0 : Int), (p1 : Int)]) (hUB : upI (butL hs b a) = [(p2 : Int), (p3 : Int)]) (hpos : 0 < (woL (setN [(a : Int), (b : Int)]) n hs).length)
    (kg : Blk w gg 28 #[.int .i64 n, .slice A es.length c]) (ke : Blk w ge 2 #[.int .i64 e]) (kf : Blk w gf 2 #[.int .i64 f]) (kh : Blk w gh 28 #[.int .i64 m, .slice B hs.length d]) (ka : Blk w ga 2 #[.int .i64 (a : Int)]) (kb : Blk w gb 2 #[.int .i64 (b : Int)]) (k1 : Blk w g1 40 #[.int .i64 x0, .int .i64 x1]) (k2 : Blk w g2 40 #[.int .i64 y0, .int .i64 y1]) :
    Calls Tryz.prog 40 #[.pointer (some ⟨ga, 0, none⟩), .pointer (some ⟨gb, 0, none⟩), .pointer (some ⟨gg, 0, none⟩), .pointer (some ⟨ge, 0, none⟩), .pointer (some ⟨gf, 0, none⟩), .pointer (some ⟨gh, 0, none⟩), .pointer (some ⟨g1, 0, none⟩), .pointer (some ⟨g2, 0, none⟩)] w fun e' w' => ∃ A' c', e' = .returned (.slice A' (dotK es e f es.length ++ woL (setN [(a : Int), (b : Int)]) n hs ++ dotQ (setN [(a : Int), (b : Int)]) n (x0, x1) (y0, y1) [(p0 : Int), (p1 : Int), (p2 : Int), (p3 : Int)] 4).length c') ∧ RdE w' A' (dotK es e f es.length ++ woL (setN [(a : Int), (b : Int)]) n hs ++ dotQ (setN [(a : Int), (b : Int)]) n (x0, x1) (y0, y1) [(p0 : Int), (p1 : Int), (p2 : Int), (p3 : Int)] 4) ∧ Below w.heap.size w w' := by
  have Hre : Hid (∀ W, Below w.heap.size w W → RdE W A es) := fun W hW => hr1.below hW
  have h63 : ∀ x ∈ [(a : Int), (b : Int)], 0 ≤ x ∧ x < (63 : Nat) := by simp; omega
  have cs := Lib.hid fun (W : World) Q hQ => setOf_b Q 2 [(a : Int), (b : Int)] W (by simp) h63 hQ
  have hT63 : setN [(a : Int), (b : Int)] < 2 ^ 63 := setN_lt h63
  have HT63 := Lib.hid hT63
  have cw := fun W (hW : Below w.heap.size w W) => without_own m B d hs N (setN [(a : Int), (b : Int)]) n W hl2 hN hT63 (by omega) hin (hr2.below hW)
  have hlU : (upI (butL hs a b)).length = 2 := by rw [hUA]; rfl
  have hlV : (upI (butL hs b a)).length = 2 := by rw [hUB]; rfl
  rw [upI_len] at hlU hlV
  have c2 := fun W (hW : Below w.heap.size w W) => othersAt_b m B d hs N a b W hl2 (by omega) hin (by omega) (by have := hlU; unfold butL at this; have h9 := List.length_filter_le (fun x : Int => !decide (x = (b : Int))) (endsL hs a); omega) (by omega) (hr2.below hW)
  have c3 := fun W (hW : Below w.heap.size w W) => othersAt_b m B d hs N b a W hl2 (by omega) hin (by omega) (by have := hlV; unfold butL at this; have h9 := List.length_filter_le (fun x : Int => !decide (x = (a : Int))) (endsL hs b); omega) (by omega) (hr2.below hW)
  rw [hlU, hUA] at c2
  rw [hlV, hUB] at c3
  have CC := Lib.hid fun (g c A1c A2c : Nat) (A1 A2 : Option Addr) (W : World) h3 h4 h5 => concatI_b g c A1c A2c A1 A2 [(p0 : Int), (p1 : Int)] [(p2 : Int), (p3 : Int)] W (by simp) (by simp) (by simp) (by simp) h3 h4 h5
  have hKl := dotK_len es e f es.length
  have Hks : Hid (∀ k, k < es.length → dotK es e f (k + 1) = if (decide ((k : Int) ≠ e) && decide ((k : Int) ≠ f)) = true then dotK es e f k ++ [es.getD k (0, 0)] else dotK es e f k) := fun k _ => dotK_succ es e f k
  have Hkl : Hid (∀ k, (dotK es e f k).length ≤ k) := dotK_len es e f
  have hWl := woL_len (setN [(a : Int), (b : Int)]) n hs
  obtain ⟨z0, Hz0⟩ : ∃ z : Int, Hid (frV (setN [(a : Int), (b : Int)]) n p0 = z) := ⟨_, rfl⟩
  obtain ⟨z1, Hz1⟩ : ∃ z : Int, Hid (frV (setN [(a : Int), (b : Int)]) n p1 = z) := ⟨_, rfl⟩
  obtain ⟨z2, Hz2⟩ : ∃ z : Int, Hid (frV (setN [(a : Int), (b : Int)]) n p2 = z) := ⟨_, rfl⟩
  obtain ⟨z3, Hz3⟩ : ∃ z : Int, Hid (frV (setN [(a : Int), (b : Int)]) n p3 = z) := ⟨_, rfl⟩
  have HR : Hid ((dotK es e f es.length ++ woL (setN [(a : Int), (b : Int)]) n hs ++ dotQ (setN [(a : Int), (b : Int)]) n (x0, x1) (y0, y1) [(p0 : Int), (p1 : Int), (p2 : Int), (p3 : Int)] 4) = (((((dotK es e f es.length ++ woL (setN [(a : Int), (b : Int)]) n hs) ++ [(x0, z0)]) ++ [(x1, z1)]) ++ [(y0, z2)]) ++ [(y1, z3)])) := by
    show _ = _
    rw [← Hz0.out, ← Hz1.out, ← Hz2.out, ← Hz3.out]
    simp [dotQ]
  rw [HR.out]
  have Hzz : Hid (∀ p : Nat, p < 60 → 0 ≤ ((p : Int) - (shC (setN [(a : Int), (b : Int)]) p : Nat)) ∧ ((p : Int) - (shC (setN [(a : Int), (b : Int)]) p : Nat)) ≤ 60) := fun p hp9 => by have := shC_le (setN [(a : Int), (b : Int)]) p; omega
  have Hp := Lib.hid hp
  have Hn := Lib.hid hn
  obtain ⟨T, HT⟩ : ∃ T, Hid (setN [(a : Int), (b : Int)] = T) := ⟨_, rfl⟩
  rw [HT.out] at HT63 hpos hWl Hz0 Hz1 Hz2 Hz3 Hzz
  simp only [HT.out] at cs cw ⊢
  obtain ⟨Q0, HQ0⟩ : ∃ P, Hid (woL T n hs = P) := ⟨_, rfl⟩
  rw [HQ0.out] at hpos hWl
  simp only [HQ0.out] at cw ⊢
  obtain ⟨q0, Hq0⟩ : ∃ P, Hid (Q0.length = P) := ⟨_, rfl⟩
  rw [Hq0.out] at hpos hWl
  simp only [Hq0.out] at cw
  obtain ⟨L, HL⟩ : ∃ L, Hid (es.length = L) := ⟨_, rfl⟩
  obtain ⟨M, HM⟩ : ∃ L, Hid (hs.length = L) := ⟨_, rfl⟩
  rw [HL.out] at kg hKl hl1 Hks ⊢
  rw [HM.out] at kh cw c2 c3
  obtain ⟨D0, HD0⟩ : ∃ P, Hid (dotK es e f L = P) := ⟨_, rfl⟩
  have HD0b : Hid (L ≤ 1000 ∧ q0 ≤ 1000) := by show _ ∧ _; omega
  obtain ⟨P0, HP0⟩ : ∃ P, Hid (D0 ++ Q0 = P) := ⟨_, rfl⟩
  rw [HD0.out, HP0.out]
  have Hp0 : Hid (P0.length ≤ 2000) := by show _ ≤ _; rw [← HP0.out, List.length_append, Hq0.out, ← HD0.out]; omega
  have hpos0 := hpos
  have C2 := Lib.hid c2
  have C3 := Lib.hid c3
  have CW := Lib.hid cw
  have Kg := Lib.hid kg
  have Ke := Lib.hid ke
  have Kf := Lib.hid kf
  have Kh := Lib.hid kh
  have Ka := Lib.hid ka
  have Kb := Lib.hid kb
  have K1 := Lib.hid k1
  have K2 := Lib.hid k2
  clear c2 c3 cw hr1 hr2 hin hN hab hn hp hUA hUB hlU hlV h63 hT63 hKl hWl hl1 hl2 hpos kg ke kf kh ka kb k1 k2
  have u0 := Ka.out.cellAt 0 _ rfl
  have u1 := Kb.out.cellAt 0 _ rfl
  obtain ⟨w1, hw1⟩ : ∃ x, x = w.alloc (.cells #[.int .i64 (a : Int), .int .i64 (b : Int)] 2) := ⟨_, rfl⟩
  have hb1 : Below w.heap.size w w1 := by rw [hw1]; exact Below.alloc (Below.refl _ _) (Nat.le_refl _) _
  have hR1 : RdI w1 (some ⟨w.heap.size, 0, none⟩) [(a : Int), (b : Int)] := by rw [hw1]; exact blkI_rd (t := 2) (xs := [(a : Int), (b : Int)]) (Blk.new' _ rfl)
  go_enter Tryz.func40, Tryz.ntmps40
  go_wp2_with fail
  rw [← hw1]
  refine (cs.out w1 _ hR1).mono ?_
  rintro e9 w99 ⟨rfl, rfl⟩
  have Hb1 := Lib.hid hb1
  clear hw1 hb1 hR1 cs u0 u1
  have u0 := (Kg.out.below Hb1.out Kg.out.lt).cellAt 1 _ rfl
  go_wp2
  clear u0
  go_loopw [10, 23] (fun v i wr => ∃ (k K : Nat), k ≤ L ∧ i = .int .i64 k ∧ Hid (wr.ownsRow w.heap.size 40 2 v K (cE (dotK es e f k))) ∧ Hid (Below w.heap.size w wr)) (fun _ i _ => L - (intOf i).toNat)
  case atStart => exact ⟨0, 0, Nat.zero_le _, rfl, own_nilE _ _ _, Hb1⟩
  case round =>
    clear Hb1
    obtain ⟨k, KN, hk, rfl, Hown, Hbel⟩ := hrel
    obtain ⟨A1, c1, rfl⟩ := own_form Hown.out
    have hsz := Hbel.out.size
    have HKk : Hid (KN ≤ 1000) := by
      show _ ≤ _
      have h1 := own_lenE Hown.out
      have h2 := Hkl.out k
      have := HD0b.out
      omega
    by_cases hlt : k < L
    · obtain ⟨bb, off, rfl, hb, hc⟩ := (Hre.out wr Hbel.out).pos (by rw [HL.out]; omega)
      obtain ⟨hc0, hc1⟩ := hc k (by rw [HL.out]; exact hlt)
      obtain ⟨⟨x, y⟩, Hxy⟩ : ∃ p, Hid (es.getD k (0, 0) = p) := ⟨_, rfl⟩
      rw [Hxy.out] at hc0 hc1
      dsimp only at hc0 hc1
      have Hs := Lib.hid (Hks.out k hlt)
      rw [Hxy.out] at Hs
      obtain ⟨P, HP⟩ : ∃ P, Hid (dotK es e f k = P) := ⟨_, rfl⟩
      rw [HP.out] at Hown Hs
      obtain ⟨ek, ek2, ek3⟩ := idxF k L hlt
      have hk9 : k ≤ 1000 := by have := HD0b.out; omega
      obtain ⟨u, hu⟩ : ∃ u, u = wr.alloc (.cells #[.int .i64 x, .int .i64 y] 40) := ⟨_, rfl⟩
      have hbu : Below wr.heap.size wr u := by rw [hu]; exact Below.alloc (Below.refl _ _) (Nat.le_refl _) _
      have Hzu : Hid (u.heap.size = wr.heap.size + 1) := by show _ = _; rw [hu]; simp
      have Hbu : Hid (Below w.heap.size w u) := Hbel.out.trans (hbu.mono hsz)
      have ke := ((Ke.out.below Hbel.out Ke.out.lt).alloc (.cells #[.int .i64 x, .int .i64 y] 40)).cellAt 0 _ rfl
      have kf := ((Kf.out.below Hbel.out Kf.out.lt).alloc (.cells #[.int .i64 x, .int .i64 y] 40)).cellAt 0 _ rfl
      have hownu := Lib.hid (own_below Hown.out hbu)
      clear hc
      cases g1 : ((k : Int) != e)
      · have hg : (k : Int) = e := by simpa using g1
        have Hs2 : Hid (dotK es e f (k + 1) = P) := by show _ = _; rw [Hs.out, if_neg (by simp [hg])]
        clear hg Hs
        go_wp2
        rw [← hu]
        exact ⟨⟨k + 1, KN, by omega, by go_num, by { show World.ownsRow _ _ _ _ _ _ _; rw [Hs2.out]; exact hownu.out }, Hbu⟩, by simp [intOf]; omega⟩
      · cases g2 : ((k : Int) != f)
        · have hg : (k : Int) = f := by simpa using g2
          have Hs2 : Hid (dotK es e f (k + 1) = P) := by show _ = _; rw [Hs.out, if_neg (by simp [hg])]
          clear hg Hs
          go_wp2
          rw [← hu]
          exact ⟨⟨k + 1, KN, by omega, by go_num, by { show World.ownsRow _ _ _ _ _ _ _; rw [Hs2.out]; exact hownu.out }, Hbu⟩, by simp [intOf]; omega⟩
        · have hg1 : (k : Int) ≠ e := by simpa using g1
          have hg2 : (k : Int) ≠ f := by simpa using g2
          have Hs2 : Hid (dotK es e f (k + 1) = P ++ [(x, y)]) := by show _ = _; rw [Hs.out, if_pos (by simp [hg1, hg2])]
          clear hg1 hg2 Hs hu
          have hown2 := own_below Hown.out (show Below wr.heap.size wr ((wr.alloc (.cells #[.int .i64 x, .int .i64 y] 40)).alloc (.cells #[.int .i64 x, .int .i64 y] 40)) by (repeat' (first | (with_reducible exact Below.refl _ _) | (with_reducible assumption) | (with_reducible refine Below.alloc ?_ ?_ _) | (with_reducible refine Below.drew ?_) | (with_reducible refine below_drewN ?_ _) | (with_reducible refine Below.setCell ?_ ?_ _) | (with_reducible refine Below.trans ?_ (Below.mono (by assumption) ?_)) | (first | omega | (simp only [World.size_alloc, World.size_setCell, World.size_drew]; omega) | (simp; omega) | (simp; done)))))
          have hB3 : Below w.heap.size w ((wr.alloc (.cells #[.int .i64 x, .int .i64 y] 40)).alloc (.cells #[.int .i64 x, .int .i64 y] 40)) := by have := Hbel.out; (repeat' (first | (with_reducible exact Below.refl _ _) | (with_reducible assumption) | (with_reducible refine Below.alloc ?_ ?_ _) | (with_reducible refine Below.drew ?_) | (with_reducible refine below_drewN ?_ _) | (with_reducible refine Below.setCell ?_ ?_ _) | (with_reducible refine Below.trans ?_ (Below.mono (by assumption) ?_)) | (first | omega | (simp only [World.size_alloc, World.size_setCell, World.size_drew]; omega) | (simp; omega) | (simp; done))))
          have hnew : RdE ((wr.alloc (.cells #[.int .i64 x, .int .i64 y] 40)).alloc (.cells #[.int .i64 x, .int .i64 y] 40)) (some ⟨wr.heap.size + 1, 0, none⟩) [(x, y)] := blkE_rd (t := 40) (es := [(x, y)]) (Blk.new' (n := wr.heap.size + 1) _ (by simp))
          have hKk := HKk.out
          go_wp2_with (first
            | (at_builtin; refine wpList_appendE rfl rfl w.heap.size _ KN P rfl hown2 (wr.heap.size + 1) 0 1 1 [(x, y)] rfl rfl hnew (by omega) (by omega) (by simp; omega) ?_))
          intro v' w3 hown3 hfr hgr
          have Hb3 : Hid (Below w.heap.size w w3) := hfr w.heap.size w (Nat.le_refl _) hB3
          obtain ⟨g3, c3, rfl, _, _⟩ := own_someI hown3 (by omega)
          have Hown3 : Hid (w3.ownsRow w.heap.size 40 2 (.slice (some ⟨g3, 0, none⟩) (KN + 1) c3) (KN + 1) (cE (dotK es e f (k + 1)))) := by
            show World.ownsRow _ _ _ _ _ _ _
            rw [Hs2.out]
            exact hown3
          clear hown3 hfr hgr hown2 hnew hB3 Hown Hbel hc0 hc1 ke kf hownu Hbu hbu
          go_wp2
          exact ⟨⟨k + 1, KN + 1, by omega, by go_num, Hown3, Hb3⟩, by simp [intOf]; omega⟩
    · obtain rfl : L = k := by omega
      rw [HD0.out] at Hown
      have u0 := (Kh.out.below Hbel.out Kh.out.lt).cellAt 0 _ rfl
      have u1 := (Kh.out.below Hbel.out Kh.out.lt).cellAt 1 _ rfl
      have u2 := (Kg.out.below Hbel.out Kg.out.lt).cellAt 0 _ rfl
      go_wp2_with fail
      refine (CW.out wr Hbel.out).mono ?_
      rintro e9 w4 ⟨A4, c4, rfl, hown4, hb4⟩
      obtain ⟨g4, c4', hv4, hg4, hg4'⟩ := own_someI hown4 hpos0
      injection hv4 with hv5 _ hv6
      subst hv5; subst hv6
      have hrd4 := own_rdE hown4
      have hE4 := own_below Hown.out hb4
      have hB4 : Below w.heap.size w w4 := Hbel.out.trans (hb4.mono hsz)
      have hKk := HKk.out
      have hq0b := HD0b.out
      have hq0 := Hq0.out
      clear u0 u1 u2 hown4 CW
      go_wp2_with (first
        | (at_builtin; refine wpList_appendE rfl rfl w.heap.size _ KN D0 rfl hE4 g4 0 q0 c4 Q0 rfl hq0 hrd4 (by omega) (by omega) hB4.size ?_))
      intro v5 w5 hown5 hfr5 hgr5
      have Hb5 : Hid (Below w.heap.size w w5) := hfr5 w.heap.size w (Nat.le_refl _) hB4
      rw [HP0.out] at hown5
      obtain ⟨A5, c5, rfl⟩ := own_form hown5
      have HE5 : Hid (w5.ownsRow w.heap.size 40 2 (.slice A5 (KN + q0) c5) (KN + q0) (cE P0)) := hown5
      have HKq : Hid (KN + q0 ≤ 2000) := by show _ ≤ _; omega
      clear hown5 hfr5 hgr5 hE4 hrd4 hB4 hb4 Hown Hbel hg4 hg4' hKk hq0b hq0
      have b5 := Hb5.out
      have v0 : w5.cell? ⟨gh, 0, none⟩ = some (.int .i64 m) ∧ w5.cell? ⟨gh, 1, none⟩ = some (.slice B M d) ∧ w5.cell? ⟨ga, 0, none⟩ = some (.int .i64 (a : Int)) ∧ w5.cell? ⟨gb, 0, none⟩ = some (.int .i64 (b : Int)) := ⟨(Kh.out.below b5 Kh.out.lt).cellAt 0 _ rfl, (Kh.out.below b5 Kh.out.lt).cellAt 1 _ rfl, (Ka.out.below b5 Ka.out.lt).cellAt 0 _ rfl, (Kb.out.below b5 Kb.out.lt).cellAt 0 _ rfl⟩
      go_wp2
      refine wp_region_noPanic ?_
      refine wp_region_held_drew (S := (fun w' => w'.cell? ⟨gh, 0, none⟩ = some (.int .i64 m) ∧ w'.cell? ⟨gh, 1, none⟩ = some (.slice B M d) ∧ w'.cell? ⟨ga, 0, none⟩ = some (.int .i64 (a : Int)) ∧ w'.cell? ⟨gb, 0, none⟩ = some (.int .i64 (b : Int)))) (by kernel_rfl) ?_ (fun hHeld => ?_)
      · (try dsimp only); (first | exact hS5 | exact hS4 | exact hS3 | exact hS2 | exact v0 | assumption | (first | go_keep | (obtain ⟨hq, _⟩ := bcell ‹Below _ _ _›; (repeat' apply And.intro) <;> (rw [hq _ _ (by first | assumption | omega | (simp; done) | (simp; omega) | (simp; assumption))] <;> (first | assumption | (simp [*]; done))))))
      refine wpAnyH_take_d (i := 0) (d := some 48) (v := ?v1) rfl rfl (by kernel_rfl) (by kernel_rfl) (by kernel_rfl) (fun _ _ _ h => h) (Or.inl ⟨by kernel_rfl, ?y1⟩) (by assumption) ?_
      case y1 => (intro w' hSw; (try dsimp only at hSw); go_simp; try with_reducible rfl)
      try simp only [Act.put, List.setIfInBounds_toArray, List.set_cons_zero, List.set_cons_succ]
      refine wpAnyH_take_d (i := 1) (d := some 49) (v := ?v2) rfl rfl (by kernel_rfl) (by kernel_rfl) (by kernel_rfl) (fun _ _ _ h => h) (Or.inl ⟨by kernel_rfl, ?y2⟩) (by assumption) ?_
      case y2 => (intro w' hSw; (try dsimp only at hSw); go_simp; try with_reducible rfl)
      try simp only [Act.put, List.setIfInBounds_toArray, List.set_cons_zero, List.set_cons_succ]
      refine wpAnyH_take_d (i := 2) (d := some 50) (v := ?v3) rfl rfl (by kernel_rfl) (by kernel_rfl) (by kernel_rfl) (fun _ _ _ h => h) (Or.inl ⟨by kernel_rfl, ?y3⟩) (by assumption) ?_
      case y3 => (intro w' hSw; (try dsimp only at hSw); go_simp; try with_reducible rfl)
      try simp only [Act.put, List.setIfInBounds_toArray, List.set_cons_zero, List.set_cons_succ]
      refine wpAnyH_take_d (i := 4) (d := some 52) (v := ?v4) rfl rfl (by kernel_rfl) (by kernel_rfl) (by kernel_rfl) (fun _ _ _ h => h) (Or.inl ⟨by kernel_rfl, ?y4⟩) (by assumption) ?_
      case y4 => (intro w' hSw; (try dsimp only at hSw); go_simp; try with_reducible rfl)
      try simp only [Act.put, List.setIfInBounds_toArray, List.set_cons_zero, List.set_cons_succ]
      refine wpAnyH_take_d (i := 5) (d := some 53) (v := ?v5) rfl rfl (by kernel_rfl) (by kernel_rfl) (by kernel_rfl) (fun _ _ _ h => h) (Or.inl ⟨by kernel_rfl, ?y5⟩) (by assumption) ?_
      case y5 => (intro w' hSw; (try dsimp only at hSw); go_simp; try with_reducible rfl)
      try simp only [Act.put, List.setIfInBounds_toArray, List.set_cons_zero, List.set_cons_succ]
      refine wpAnyH_take_d (i := 6) (d := some 54) (v := ?v6) rfl rfl (by kernel_rfl) (by kernel_rfl) (by kernel_rfl) (fun _ _ _ h => h) (Or.inl ⟨by kernel_rfl, ?y6⟩) (by assumption) ?_
      case y6 => (intro w' hSw; (try dsimp only at hSw); go_simp; try with_reducible rfl)
      try simp only [Act.put, List.setIfInBounds_toArray, List.set_cons_zero, List.set_cons_succ]
      refine wpAnyH_take_d (i := 11) (d := some 59) (v := ?v7) rfl rfl (by kernel_rfl) (by kernel_rfl) (by kernel_rfl) (fun _ _ _ h => h) (Or.inl ⟨by kernel_rfl, ?y7⟩) (by assumption) ?_
      case y7 => (intro w' hSw; (try dsimp only at hSw); go_simp; try with_reducible rfl)
      try simp only [Act.put, List.setIfInBounds_toArray, List.set_cons_zero, List.set_cons_succ]
      refine wpAnyH_ready (rs := [3]) (by kernel_rfl) (by simp) ?_
      refine AllReadyH.cons rfl (fun K hK => ?_) AllReadyH.nil
      go_simp
      refine (C2.out _ (Below.drew b5)).mono ?_; rintro e9 w7 ⟨gx, cx, rfl, hown7, hb7⟩; have b7 : Below w.heap.size w w7 := b5.trans (((Below.drew (Below.refl _ _)).trans hb7).mono b5.size); have hS2 : w7.cell? ⟨gh, 0, none⟩ = some (.int .i64 m) ∧ w7.cell? ⟨gh, 1, none⟩ = some (.slice B M d) ∧ w7.cell? ⟨ga, 0, none⟩ = some (.int .i64 (a : Int)) ∧ w7.cell? ⟨gb, 0, none⟩ = some (.int .i64 (b : Int)) := ⟨(Kh.out.below b7 Kh.out.lt).cellAt 0 _ rfl, (Kh.out.below b7 Kh.out.lt).cellAt 1 _ rfl, (Ka.out.below b7 Ka.out.lt).cellAt 0 _ rfl, (Kb.out.below b7 Kb.out.lt).cellAt 0 _ rfl⟩
      refine hK.out _ _ ?s8 (fun hHeld8 => ?_)
      case s8 => ((try dsimp only); (first | exact hS5 | exact hS4 | exact hS3 | exact hS2 | exact v0 | assumption | (first | go_keep | (obtain ⟨hq, _⟩ := bcell ‹Below _ _ _›; (repeat' apply And.intro) <;> (rw [hq _ _ (by first | assumption | omega | (simp; done) | (simp; omega) | (simp; assumption))] <;> (first | assumption | (simp [*]; done)))))))
      clear hK K hHeld
      have hHeld := hHeld8; clear hHeld8
      try simp only [Act.put, List.setIfInBounds_toArray, List.set_cons_zero, List.set_cons_succ]
      refine wpAnyH_ready (rs := [7]) (by kernel_rfl) (by simp) ?_
      refine AllReadyH.cons rfl (fun K hK => ?_) AllReadyH.nil
      go_simp
      refine (C3.out _ b7).mono ?_; rintro e9 w8 ⟨gy, cy, rfl, hown8, hb8⟩; have b8 : Below w.heap.size w w8 := b7.trans (hb8.mono b7.size); have hS3 : w8.cell? ⟨gh, 0, none⟩ = some (.int .i64 m) ∧ w8.cell? ⟨gh, 1, none⟩ = some (.slice B M d) ∧ w8.cell? ⟨ga, 0, none⟩ = some (.int .i64 (a : Int)) ∧ w8.cell? ⟨gb, 0, none⟩ = some (.int .i64 (b : Int)) := ⟨(Kh.out.below b8 Kh.out.lt).cellAt 0 _ rfl, (Kh.out.below b8 Kh.out.lt).cellAt 1 _ rfl, (Ka.out.below b8 Ka.out.lt).cellAt 0 _ rfl, (Kb.out.below b8 Kb.out.lt).cellAt 0 _ rfl⟩
      refine hK.out _ _ ?s9 (fun hHeld9 => ?_)
      case s9 => ((try dsimp only); (first | exact hS5 | exact hS4 | exact hS3 | exact hS2 | exact v0 | assumption | (first | go_keep | (obtain ⟨hq, _⟩ := bcell ‹Below _ _ _›; (repeat' apply And.intro) <;> (rw [hq _ _ (by first | assumption | omega | (simp; done) | (simp; omega) | (simp; assumption))] <;> (first | assumption | (simp [*]; done)))))))
      clear hK K hHeld
      have hHeld := hHeld9; clear hHeld9
      try simp only [Act.put, List.setIfInBounds_toArray, List.set_cons_zero, List.set_cons_succ]
      have b9 : Below w.heap.size w (w8.alloc (.cells #[.slice (some ⟨gx, 0, none⟩) 2 cx, .slice (some ⟨gy, 0, none⟩) 2 cy] 43)) := b8.alloc b8.size _; have hS4 : (w8.alloc (.cells #[.slice (some ⟨gx, 0, none⟩) 2 cx, .slice (some ⟨gy, 0, none⟩) 2 cy] 43)).cell? ⟨gh, 0, none⟩ = some (.int .i64 m) ∧ (w8.alloc (.cells #[.slice (some ⟨gx, 0, none⟩) 2 cx, .slice (some ⟨gy, 0, none⟩) 2 cy] 43)).cell? ⟨gh, 1, none⟩ = some (.slice B M d) ∧ (w8.alloc (.cells #[.slice (some ⟨gx, 0, none⟩) 2 cx, .slice (some ⟨gy, 0, none⟩) 2 cy] 43)).cell? ⟨ga, 0, none⟩ = some (.int .i64 (a : Int)) ∧ (w8.alloc (.cells #[.slice (some ⟨gx, 0, none⟩) 2 cx, .slice (some ⟨gy, 0, none⟩) 2 cy] 43)).cell? ⟨gb, 0, none⟩ = some (.int .i64 (b : Int)) := ⟨(Kh.out.below b9 Kh.out.lt).cellAt 0 _ rfl, (Kh.out.below b9 Kh.out.lt).cellAt 1 _ rfl, (Ka.out.below b9 Ka.out.lt).cellAt 0 _ rfl, (Kb.out.below b9 Kb.out.lt).cellAt 0 _ rfl⟩
      refine wpAnyH_ready (rs := [8]) (by kernel_rfl) (by simp) ?_
      refine AllReadyH.cons rfl (fun K hK => ?_) AllReadyH.nil
      go_simp
      refine hK.out _ _ ?s10 (fun hHeld10 => ?_)
      case s10 => ((try dsimp only); (first | exact hS5 | exact hS4 | exact hS3 | exact hS2 | exact v0 | assumption | (first | go_keep | (obtain ⟨hq, _⟩ := bcell ‹Below _ _ _›; (repeat' apply And.intro) <;> (rw [hq _ _ (by first | assumption | omega | (simp; done) | (simp; omega) | (simp; assumption))] <;> (first | assumption | (simp [*]; done)))))))
      clear hK K hHeld
      have hHeld := hHeld10; clear hHeld10
      try simp only [Act.put, List.setIfInBounds_toArray, List.set_cons_zero, List.set_cons_succ]
      refine wpAnyH_ready (rs := [9]) (by kernel_rfl) (by simp) ?_
      refine AllReadyH.cons rfl (fun K hK => ?_) AllReadyH.nil
      go_simp
      refine (CC.out w8.heap.size 2 cx cy (some ⟨gx, 0, none⟩) (some ⟨gy, 0, none⟩) (w8.alloc (.cells #[.slice (some ⟨gx, 0, none⟩) 2 cx, .slice (some ⟨gy, 0, none⟩) 2 cy] 43)) (Blk.new' (n := w8.heap.size) _ rfl) (((own_rdI hown7).below hb8).below (Below.alloc (Below.refl _ _) (Nat.le_refl _) _)) ((own_rdI hown8).below (Below.alloc (Below.refl _ _) (Nat.le_refl _) _))).mono ?_; rintro e9 w10 ⟨A10, c10, rfl, hown10, hb10⟩; have b10 : Below w.heap.size w w10 := b9.trans (hb10.mono b9.size); have hS5 : w10.cell? ⟨gh, 0, none⟩ = some (.int .i64 m) ∧ w10.cell? ⟨gh, 1, none⟩ = some (.slice B M d) ∧ w10.cell? ⟨ga, 0, none⟩ = some (.int .i64 (a : Int)) ∧ w10.cell? ⟨gb, 0, none⟩ = some (.int .i64 (b : Int)) := ⟨(Kh.out.below b10 Kh.out.lt).cellAt 0 _ rfl, (Kh.out.below b10 Kh.out.lt).cellAt 1 _ rfl, (Ka.out.below b10 Ka.out.lt).cellAt 0 _ rfl, (Kb.out.below b10 Kb.out.lt).cellAt 0 _ rfl⟩
      refine hK.out _ _ ?s11 (fun hHeld11 => ?_)
      case s11 => ((try dsimp only); (first | exact hS5 | exact hS4 | exact hS3 | exact hS2 | exact v0 | assumption | (first | go_keep | (obtain ⟨hq, _⟩ := bcell ‹Below _ _ _›; (repeat' apply And.intro) <;> (rw [hq _ _ (by first | assumption | omega | (simp; done) | (simp; omega) | (simp; assumption))] <;> (first | assumption | (simp [*]; done)))))))
      clear hK K hHeld
      have hHeld := hHeld11; clear hHeld11
      try simp only [Act.put, List.setIfInBounds_toArray, List.set_cons_zero, List.set_cons_succ]
      refine wpAnyH_take_d (i := 10) (d := some 58) (v := ?v12) rfl rfl (by kernel_rfl) (by kernel_rfl) (by kernel_rfl) (fun _ _ _ h => h) (Or.inl ⟨by kernel_rfl, ?y12⟩) (by assumption) ?_
      case y12 => (intro w' hSw; (try dsimp only at hSw); go_simp; try with_reducible rfl)
      try simp only [Act.put, List.setIfInBounds_toArray, List.set_cons_zero, List.set_cons_succ]
      refine wpAnyH_done (by kernel_rfl) ?_ _
      refine NoPanic.normal ?_
      have bb10 : Below w5.heap.size w5 w10 := ((((Below.drew (Below.refl _ _)).trans hb7).trans (hb8.mono (by have := hb7.size; exact this))).alloc (by have h1 := hb7.size; have h2 := hb8.size; exact Nat.le_trans h1 h2) _).trans (hb10.mono (by have h1 := hb7.size; have h2 := hb8.size; simp; exact Nat.le_succ_of_le (Nat.le_trans h1 h2)))
      have Hb10 := Lib.hid b10
      have HE10 := Lib.hid (own_below HE5.out bb10)
      have HV10 : Hid (w10.ownsRow w.heap.size 2 1 (.slice A10 4 c10) 4 (cI [(p0 : Int), (p1 : Int), (p2 : Int), (p3 : Int)])) := own_mono hown10 b9.size
      clear hHeld hS2 hS3 hS4 hS5 v0 hb7 hb8 hb10 b5 b7 b8 b9 b10 bb10 hown7 hown8 hown10 HE5 Hb5 C2 C3 CC
      obtain ⟨gv, cv', hv8, _, _⟩ := own_someI HV10.out (by omega)
      injection hv8 with hv5 _ hv6
      subst hv5; subst hv6
      go_wp2_with fail
      go_loopw [10, 59] (fun s ii wr => ((ii = .int .i64 0 ∧ Hid (wr.ownsRow w.heap.size 40 2 s (KN + q0 + 0) (cE P0))) ∨ (ii = .int .i64 1 ∧ Hid (wr.ownsRow w.heap.size 40 2 s (KN + q0 + 1) (cE (P0 ++ [(x0, z0)])))) ∨ (ii = .int .i64 2 ∧ Hid (wr.ownsRow w.heap.size 40 2 s (KN + q0 + 2) (cE ((P0 ++ [(x0, z0)]) ++ [(x1, z1)])))) ∨ (ii = .int .i64 3 ∧ Hid (wr.ownsRow w.heap.size 40 2 s (KN + q0 + 3) (cE (((P0 ++ [(x0, z0)]) ++ [(x1, z1)]) ++ [(y0, z2)])))) ∨ (ii = .int .i64 4 ∧ Hid (wr.ownsRow w.heap.size 40 2 s (KN + q0 + 4) (cE ((((P0 ++ [(x0, z0)]) ++ [(x1, z1)]) ++ [(y0, z2)]) ++ [(y1, z3)]))))) ∧ Hid (wr.ownsRow w.heap.size 2 1 (.slice (some ⟨gv, 0, none⟩) 4 c10) 4 (cI [(p0 : Int), (p1 : Int), (p2 : Int), (p3 : Int)])) ∧ Hid (Below w.heap.size w wr)) (fun _ ii _ => 4 - (intOf ii).toNat)
      case atStart => exact ⟨.inl ⟨rfl, HE10⟩, HV10, Hb10⟩
      case round =>
        clear HE10 HV10 Hb10
        obtain ⟨hcase, HV, Hbel⟩ := hrel
        have hsz := Hbel.out.size
        have zgv := (HV.out.lt gv rfl).2
        have K1' := K1.out.below Hbel.out K1.out.lt
        have K2' := K2.out.below Hbel.out K2.out.lt
        have Kg' := Kg.out.below Hbel.out Kg.out.lt
        rcases hcase with ⟨rfl, HE⟩ | ⟨rfl, HE⟩ | ⟨rfl, HE⟩ | ⟨rfl, HE⟩ | ⟨rfl, HE⟩
        · obtain ⟨A5, c5, rfl⟩ := own_form HE.out
          obtain ⟨r, Hr⟩ : ∃ r : Int, Hid ((p0 : Int) - (shC T p0 : Nat) = r) := ⟨_, rfl⟩
          have Hzr : Hid (r + n = z0) := by show _ = _; rw [← Hr.out, ← Hz0.out]; rfl
          have hrb : 0 ≤ r ∧ r ≤ 60 := by rw [← Hr.out]; exact Hzz.out p0 (by have := Hp.out; omega)
          have cf := fun W => shifted_b p0 T W (by have := Hp.out; omega) HT63.out
          rw [Hr.out] at cf
          have cf := Lib.hid cf
          have V1 : Hid (IntKind.i64.wrap (r + n) = z0) := by show _ = _; rw [← Hzr.out]; have := Hn.out; exact IntWalk.i64_in _ (by omega)
          clear hrb
          have d1 : wr.cell? ⟨gv, 0, none⟩ = some (.int .i64 (p0 : Int)) := own_cellI HV.out rfl (by decide)
          have n0 := K1'.cellAt 0 _ rfl
          have n1 := K1'.cellAt 1 _ rfl
          obtain ⟨u, hu⟩ : ∃ u, u = (wr.alloc (.cells #[.int .i64 x0, .int .i64 x1] 40)) := ⟨_, rfl⟩
          have hbu : Below wr.heap.size wr u := by rw [hu]; exact Below.alloc (Below.refl _ _) (Nat.le_refl _) _
          have Hzu : Hid (u.heap.size = wr.heap.size + 1) := by show _ = _; rw [hu]; simp [World.size_setCell]
          have KB : Hid (Blk u wr.heap.size 40 #[.int .i64 x0, .int .i64 x1]) := by rw [hu]; exact Blk.new wr _ _
          have ag := (Kg'.below hbu Kg'.lt).cellAt 0 _ rfl
          have u0 := KB.out.cellAt 0 _ rfl
          have hB3 : Below wr.heap.size wr (u.drew.alloc (.cells #[.int .i64 x0, .int .i64 z0] 40)) := (Below.drew hbu).alloc (by have := Hzu.out; simp; omega) _
          have hown2 := own_below HE.out hB3
          have hnew : RdE (u.drew.alloc (.cells #[.int .i64 x0, .int .i64 z0] 40)) (some ⟨u.heap.size, 0, none⟩) [(x0, z0)] := blkE_rd (t := 40) (es := [(x0, z0)]) (Blk.new' (n := u.heap.size) _ (by simp))
          have hb9 : Below w.heap.size w (u.drew.alloc (.cells #[.int .i64 x0, .int .i64 z0] 40)) := Hbel.out.trans (hB3.mono hsz)
          have zg := Kg'.lt
          go_wp2_with fail
          rw [← hu]
          clear hu
          have w1' := V1.out
          refine wp_region_noPanic ?_
          refine wp_region_held_drew (S := (fun w' => w'.cell? ⟨wr.heap.size, 0, none⟩ = some (.int .i64 x0) ∧ w'.cell? ⟨gg, 0, none⟩ = some (.int .i64 n))) (by kernel_rfl) ?_ (fun hHeld => ?_)
          · (try dsimp only); (first | exact hS3 | exact hS2 | exact ⟨u0, ag⟩ | assumption | (first | go_keep | (obtain ⟨hq, _⟩ := bcell ‹Below _ _ _›; (repeat' apply And.intro) <;> (rw [hq _ _ (by first | assumption | omega | (simp; done) | (simp; omega) | (simp; assumption))] <;> (first | assumption | (simp [*]; done))))))
          refine wpAnyH_take_d (i := 0) (d := some 68) (v := ?v13) rfl rfl (by kernel_rfl) (by kernel_rfl) (by kernel_rfl) (fun _ _ _ h => h) (Or.inl ⟨by kernel_rfl, ?y13⟩) (by assumption) ?_
          case y13 => (intro w' hSw; (try dsimp only at hSw); go_simp; try with_reducible rfl)
          try simp only [Act.put, List.setIfInBounds_toArray, List.set_cons_zero, List.set_cons_succ]
          refine wpAnyH_take_d (i := 1) (d := some 69) (v := ?v14) rfl rfl (by kernel_rfl) (by kernel_rfl) (by kernel_rfl) (fun _ _ _ h => h) (Or.inl ⟨by kernel_rfl, ?y14⟩) (by assumption) ?_
          case y14 => (intro w' hSw; (try dsimp only at hSw); go_simp; try with_reducible rfl)
          try simp only [Act.put, List.setIfInBounds_toArray, List.set_cons_zero, List.set_cons_succ]
          refine wpAnyH_take_d (i := 2) (d := some 70) (v := ?v15) rfl rfl (by kernel_rfl) (by kernel_rfl) (by kernel_rfl) (fun _ _ _ h => h) (Or.inl ⟨by kernel_rfl, ?y15⟩) (by assumption) ?_
          case y15 => (intro w' hSw; (try dsimp only at hSw); go_simp; try with_reducible rfl)
          try simp only [Act.put, List.setIfInBounds_toArray, List.set_cons_zero, List.set_cons_succ]
          refine wpAnyH_take_d (i := 3) (d := some 71) (v := ?v16) rfl rfl (by kernel_rfl) (by kernel_rfl) (by kernel_rfl) (fun _ _ _ h => h) (Or.inl ⟨by kernel_rfl, ?y16⟩) (by assumption) ?_
          case y16 => (intro w' hSw; (try dsimp only at hSw); go_simp; try with_reducible rfl)
          try simp only [Act.put, List.setIfInBounds_toArray, List.set_cons_zero, List.set_cons_succ]
          refine wpAnyH_take_d (i := 4) (d := some 72) (v := ?v17) rfl rfl (by kernel_rfl) (by kernel_rfl) (by kernel_rfl) (fun _ _ _ h => h) (Or.inl ⟨by kernel_rfl, ?y17⟩) (by assumption) ?_
          case y17 => (intro w' hSw; (try dsimp only at hSw); go_simp; try with_reducible rfl)
          try simp only [Act.put, List.setIfInBounds_toArray, List.set_cons_zero, List.set_cons_succ]
          refine wpAnyH_take_d (i := 5) (d := some 73) (v := ?v18) rfl rfl (by kernel_rfl) (by kernel_rfl) (by kernel_rfl) (fun _ _ _ h => h) (Or.inl ⟨by kernel_rfl, ?y18⟩) (by assumption) ?_
          case y18 => (intro w' hSw; (try dsimp only at hSw); go_simp; try with_reducible rfl)
          try simp only [Act.put, List.setIfInBounds_toArray, List.set_cons_zero, List.set_cons_succ]
          refine wpAnyH_take_d (i := 6) (d := some 74) (v := ?v19) rfl rfl (by kernel_rfl) (by kernel_rfl) (by kernel_rfl) (fun _ _ _ h => h) (Or.inl ⟨by kernel_rfl, ?y19⟩) (by assumption) ?_
          case y19 => (intro w' hSw; (try dsimp only at hSw); go_simp; try with_reducible rfl)
          try simp only [Act.put, List.setIfInBounds_toArray, List.set_cons_zero, List.set_cons_succ]
          refine wpAnyH_take_d (i := 8) (d := some 76) (v := ?v20) rfl rfl (by kernel_rfl) (by kernel_rfl) (by kernel_rfl) (fun _ _ _ h => h) (Or.inl ⟨by kernel_rfl, ?y20⟩) (by assumption) ?_
          case y20 => (intro w' hSw; (try dsimp only at hSw); go_simp; try with_reducible rfl)
          try simp only [Act.put, List.setIfInBounds_toArray, List.set_cons_zero, List.set_cons_succ]
          refine wpAnyH_take_d (i := 9) (d := some 77) (v := ?v21) rfl rfl (by kernel_rfl) (by kernel_rfl) (by kernel_rfl) (fun _ _ _ h => h) (Or.inl ⟨by kernel_rfl, ?y21⟩) (by assumption) ?_
          case y21 => (intro w' hSw; (try dsimp only at hSw); go_simp; try with_reducible rfl)
          try simp only [Act.put, List.setIfInBounds_toArray, List.set_cons_zero, List.set_cons_succ]
          refine wpAnyH_ready (rs := [7]) (by kernel_rfl) (by simp) ?_
          refine AllReadyH.cons rfl (fun K hK => ?_) AllReadyH.nil
          go_simp
          refine (cf.out _).mono ?_; rintro e9 w9 ⟨rfl, rfl⟩
          refine hK.out _ _ ?s22 (fun hHeld22 => ?_)
          case s22 => ((try dsimp only); (first | exact hS3 | exact hS2 | exact ⟨u0, ag⟩ | assumption | (first | go_keep | (obtain ⟨hq, _⟩ := bcell ‹Below _ _ _›; (repeat' apply And.intro) <;> (rw [hq _ _ (by first | assumption | omega | (simp; done) | (simp; omega) | (simp; assumption))] <;> (first | assumption | (simp [*]; done)))))))
          clear hK K hHeld
          have hHeld := hHeld22; clear hHeld22
          try simp only [Act.put, List.setIfInBounds_toArray, List.set_cons_zero, List.set_cons_succ]
          refine wpAnyH_take_d (i := 10) (d := some 78) (v := ?v23) rfl rfl (by kernel_rfl) (by kernel_rfl) (by kernel_rfl) (fun _ _ _ h => h) (Or.inl ⟨by kernel_rfl, ?y23⟩) (by assumption) ?_
          case y23 => (intro w' hSw; (try dsimp only at hSw); go_simp; try with_reducible rfl)
          try simp only [Act.put, List.setIfInBounds_toArray, List.set_cons_zero, List.set_cons_succ]
          refine wpAnyH_take_d (i := 11) (d := some 79) (v := ?v24) rfl rfl (by kernel_rfl) (by kernel_rfl) (by kernel_rfl) (fun _ _ _ h => h) (Or.inl ⟨by kernel_rfl, ?y24⟩) (by assumption) ?_
          case y24 => (intro w' hSw; (try dsimp only at hSw); go_simp; try with_reducible rfl)
          try simp only [Act.put, List.setIfInBounds_toArray, List.set_cons_zero, List.set_cons_succ]
          have KB2 := KB.out.drew.alloc (.cells #[.int .i64 x0, .int .i64 z0] 40); have hS2 : (u.drew.alloc (.cells #[.int .i64 x0, .int .i64 z0] 40)).cell? ⟨wr.heap.size, 0, none⟩ = some (.int .i64 x0) ∧ (u.drew.alloc (.cells #[.int .i64 x0, .int .i64 z0] 40)).cell? ⟨gg, 0, none⟩ = some (.int .i64 n) := ⟨KB2.cellAt 0 _ rfl, ((bcell hB3).1 _ _ zg).trans (Kg'.cellAt 0 _ rfl)⟩
          refine wpAnyH_ready (rs := [12]) (by kernel_rfl) (by simp) ?_
          refine AllReadyH.cons rfl (fun K hK => ?_) AllReadyH.nil
          go_simp
          refine hK.out _ _ ?s25 (fun hHeld25 => ?_)
          case s25 => ((try dsimp only); (first | exact hS3 | exact hS2 | exact ⟨u0, ag⟩ | assumption | (first | go_keep | (obtain ⟨hq, _⟩ := bcell ‹Below _ _ _›; (repeat' apply And.intro) <;> (rw [hq _ _ (by first | assumption | omega | (simp; done) | (simp; omega) | (simp; assumption))] <;> (first | assumption | (simp [*]; done)))))))
          clear hK K hHeld
          have hHeld := hHeld25; clear hHeld25
          try simp only [Act.put, List.setIfInBounds_toArray, List.set_cons_zero, List.set_cons_succ]
          refine wpAnyH_ready (rs := [13]) (by kernel_rfl) (by simp) ?_
          refine AllReadyH.cons rfl (fun K hK => ?_) AllReadyH.nil
          refine wp_appendE rfl w.heap.size _ (KN + q0 + 0) P0 rfl hown2 u.heap.size 0 1 1 [(x0, z0)] rfl rfl hnew (by have := HKq.out; omega) (by omega) (by have := Hzu.out; simp; omega) ?_
          intro v' w3 hown3 hfr hgr
          have b31 := hfr w.heap.size w (Nat.le_refl _) hb9
          have HV3 := own_same (own_below HV.out hB3) fun t cs ht hB => hB.grown' hown2 hgr (by rw [ht]; decide)
          have KB3 := KB2.grown hgr HE.out (Nat.le_refl _)
          have hS3 : w3.cell? ⟨wr.heap.size, 0, none⟩ = some (.int .i64 x0) ∧ w3.cell? ⟨gg, 0, none⟩ = some (.int .i64 n) := ⟨KB3.cellAt 0 _ rfl, ((Kg'.below hB3 zg).grown' hown2 hgr (by decide)).cellAt 0 _ rfl⟩
          refine hK.out _ _ ?s26 (fun hHeld26 => ?_)
          case s26 => ((try dsimp only); (first | exact hS3 | exact hS2 | exact ⟨u0, ag⟩ | assumption | (first | go_keep | (obtain ⟨hq, _⟩ := bcell ‹Below _ _ _›; (repeat' apply And.intro) <;> (rw [hq _ _ (by first | assumption | omega | (simp; done) | (simp; omega) | (simp; assumption))] <;> (first | assumption | (simp [*]; done)))))))
          clear hK K hHeld
          have hHeld := hHeld26; clear hHeld26
          try simp only [Act.put, List.setIfInBounds_toArray, List.set_cons_zero, List.set_cons_succ]
          refine wpAnyH_take_d (i := 14) (d := some 10) (v := ?v27) rfl rfl (by kernel_rfl) (by kernel_rfl) (by kernel_rfl) (fun _ _ _ h => h) (Or.inl ⟨by kernel_rfl, ?y27⟩) (by assumption) ?_
          case y27 => (intro w' hSw; (try dsimp only at hSw); go_simp; try with_reducible rfl)
          try simp only [Act.put, List.setIfInBounds_toArray, List.set_cons_zero, List.set_cons_succ]
          refine wpAnyH_done (by kernel_rfl) ?_ _
          refine NoPanic.normal ?_
          have Hb3 := Lib.hid b31
          have HV10 := Lib.hid HV3
          have HE3 : Hid (w3.ownsRow w.heap.size 40 2 v' (KN + q0 + 1) (cE (P0 ++ [(x0, z0)]))) := hown3
          clear hHeld hS3 hS2 b31 HV3 hown3 hfr hgr hown2 hnew hB3 hb9 HE HV Hbel d1 n0 n1 ag u0 KB KB2 KB3 hbu w1' K1' K2' Kg' zg zgv
          go_wp2
          exact ⟨⟨.inr (.inl ⟨rfl, HE3⟩), HV10, Hb3⟩, by simp [intOf]⟩
        · obtain ⟨A5, c5, rfl⟩ := own_form HE.out
          obtain ⟨r, Hr⟩ : ∃ r : Int, Hid ((p1 : Int) - (shC T p1 : Nat) = r) := ⟨_, rfl⟩
          have Hzr : Hid (r + n = z1) := by show _ = _; rw [← Hr.out, ← Hz1.out]; rfl
          have hrb : 0 ≤ r ∧ r ≤ 60 := by rw [← Hr.out]; exact Hzz.out p1 (by have := Hp.out; omega)
          have cf := fun W => shifted_b p1 T W (by have := Hp.out; omega) HT63.out
          rw [Hr.out] at cf
          have cf := Lib.hid cf
          have V1 : Hid (IntKind.i64.wrap (r + n) = z1) := by show _ = _; rw [← Hzr.out]; have := Hn.out; exact IntWalk.i64_in _ (by omega)
          clear hrb
          have d1 : wr.cell? ⟨gv, 1, none⟩ = some (.int .i64 (p1 : Int)) := own_cellI HV.out rfl (by decide)
          have n0 := K1'.cellAt 0 _ rfl
          have n1 := K1'.cellAt 1 _ rfl
          obtain ⟨u, hu⟩ : ∃ u, u = (wr.alloc (.cells #[.int .i64 x0, .int .i64 x1] 40)) := ⟨_, rfl⟩
          have hbu : Below wr.heap.size wr u := by rw [hu]; exact Below.alloc (Below.refl _ _) (Nat.le_refl _) _
          have Hzu : Hid (u.heap.size = wr.heap.size + 1) := by show _ = _; rw [hu]; simp [World.size_setCell]
          have KB : Hid (Blk u wr.heap.size 40 #[.int .i64 x0, .int .i64 x1]) := by rw [hu]; exact Blk.new wr _ _
          have ag := (Kg'.below hbu Kg'.lt).cellAt 0 _ rfl
          have u1 := KB.out.cellAt 1 _ rfl
          have hB3 : Below wr.heap.size wr (u.drew.alloc (.cells #[.int .i64 x1, .int .i64 z1] 40)) := (Below.drew hbu).alloc (by have := Hzu.out; simp; omega) _
          have hown2 := own_below HE.out hB3
          have hnew : RdE (u.drew.alloc (.cells #[.int .i64 x1, .int .i64 z1] 40)) (some ⟨u.heap.size, 0, none⟩) [(x1, z1)] := blkE_rd (t := 40) (es := [(x1, z1)]) (Blk.new' (n := u.heap.size) _ (by simp))
          have hb9 : Below w.heap.size w (u.drew.alloc (.cells #[.int .i64 x1, .int .i64 z1] 40)) := Hbel.out.trans (hB3.mono hsz)
          have zg := Kg'.lt
          go_wp2_with fail
          rw [← hu]
          clear hu
          have w1' := V1.out
          refine wp_region_noPanic ?_
          refine wp_region_held_drew (S := (fun w' => w'.cell? ⟨wr.heap.size, 1, none⟩ = some (.int .i64 x1) ∧ w'.cell? ⟨gg, 0, none⟩ = some (.int .i64 n))) (by kernel_rfl) ?_ (fun hHeld => ?_)
          · (try dsimp only); (first | exact hS3 | exact hS2 | exact ⟨u1, ag⟩ | assumption | (first | go_keep | (obtain ⟨hq, _⟩ := bcell ‹Below _ _ _›; (repeat' apply And.intro) <;> (rw [hq _ _ (by first | assumption | omega | (simp; done) | (simp; omega) | (simp; assumption))] <;> (first | assumption | (simp [*]; done))))))
          refine wpAnyH_take_d (i := 0) (d := some 68) (v := ?v28) rfl rfl (by kernel_rfl) (by kernel_rfl) (by kernel_rfl) (fun _ _ _ h => h) (Or.inl ⟨by kernel_rfl, ?y28⟩) (by assumption) ?_
          case y28 => (intro w' hSw; (try dsimp only at hSw); go_simp; try with_reducible rfl)
          try simp only [Act.put, List.setIfInBounds_toArray, List.set_cons_zero, List.set_cons_succ]
          refine wpAnyH_take_d (i := 1) (d := some 69) (v := ?v29) rfl rfl (by kernel_rfl) (by kernel_rfl) (by kernel_rfl) (fun _ _ _ h => h) (Or.inl ⟨by kernel_rfl, ?y29⟩) (by assumption) ?_
          case y29 => (intro w' hSw; (try dsimp only at hSw); go_simp; try with_reducible rfl)
          try simp only [Act.put, List.setIfInBounds_toArray, List.set_cons_zero, List.set_cons_succ]
          refine wpAnyH_take_d (i := 2) (d := some 70) (v := ?v30) rfl rfl (by kernel_rfl) (by kernel_rfl) (by kernel_rfl) (fun _ _ _ h => h) (Or.inl ⟨by kernel_rfl, ?y30⟩) (by assumption) ?_
          case y30 => (intro w' hSw; (try dsimp only at hSw); go_simp; try with_reducible rfl)
          try simp only [Act.put, List.setIfInBounds_toArray, List.set_cons_zero, List.set_cons_succ]
          refine wpAnyH_take_d (i := 3) (d := some 71) (v := ?v31) rfl rfl (by kernel_rfl) (by kernel_rfl) (by kernel_rfl) (fun _ _ _ h => h) (Or.inl ⟨by kernel_rfl, ?y31⟩) (by assumption) ?_
          case y31 => (intro w' hSw; (try dsimp only at hSw); go_simp; try with_reducible rfl)
          try simp only [Act.put, List.setIfInBounds_toArray, List.set_cons_zero, List.set_cons_succ]
          refine wpAnyH_take_d (i := 4) (d := some 72) (v := ?v32) rfl rfl (by kernel_rfl) (by kernel_rfl) (by kernel_rfl) (fun _ _ _ h => h) (Or.inl ⟨by kernel_rfl, ?y32⟩) (by assumption) ?_
          case y32 => (intro w' hSw; (try dsimp only at hSw); go_simp; try with_reducible rfl)
          try simp only [Act.put, List.setIfInBounds_toArray, List.set_cons_zero, List.set_cons_succ]
          refine wpAnyH_take_d (i := 5) (d := some 73) (v := ?v33) rfl rfl (by kernel_rfl) (by kernel_rfl) (by kernel_rfl) (fun _ _ _ h => h) (Or.inl ⟨by kernel_rfl, ?y33⟩) (by assumption) ?_
          case y33 => (intro w' hSw; (try dsimp only at hSw); go_simp; try with_reducible rfl)
          try simp only [Act.put, List.setIfInBounds_toArray, List.set_cons_zero, List.set_cons_succ]
          refine wpAnyH_take_d (i := 6) (d := some 74) (v := ?v34) rfl rfl (by kernel_rfl) (by kernel_rfl) (by kernel_rfl) (fun _ _ _ h => h) (Or.inl ⟨by kernel_rfl, ?y34⟩) (by assumption) ?_
          case y34 => (intro w' hSw; (try dsimp only at hSw); go_simp; try with_reducible rfl)
          try simp only [Act.put, List.setIfInBounds_toArray, List.set_cons_zero, List.set_cons_succ]
          refine wpAnyH_take_d (i := 8) (d := some 76) (v := ?v35) rfl rfl (by kernel_rfl) (by kernel_rfl) (by kernel_rfl) (fun _ _ _ h => h) (Or.inl ⟨by kernel_rfl, ?y35⟩) (by assumption) ?_
          case y35 => (intro w' hSw; (try dsimp only at hSw); go_simp; try with_reducible rfl)
          try simp only [Act.put, List.setIfInBounds_toArray, List.set_cons_zero, List.set_cons_succ]
          refine wpAnyH_take_d (i := 9) (d := some 77) (v := ?v36) rfl rfl (by kernel_rfl) (by kernel_rfl) (by kernel_rfl) (fun _ _ _ h => h) (Or.inl ⟨by kernel_rfl, ?y36⟩) (by assumption) ?_
          case y36 => (intro w' hSw; (try dsimp only at hSw); go_simp; try with_reducible rfl)
          try simp only [Act.put, List.setIfInBounds_toArray, List.set_cons_zero, List.set_cons_succ]
          refine wpAnyH_ready (rs := [7]) (by kernel_rfl) (by simp) ?_
          refine AllReadyH.cons rfl (fun K hK => ?_) AllReadyH.nil
          go_simp
          refine (cf.out _).mono ?_; rintro e9 w9 ⟨rfl, rfl⟩
          refine hK.out _ _ ?s37 (fun hHeld37 => ?_)
          case s37 => ((try dsimp only); (first | exact hS3 | exact hS2 | exact ⟨u1, ag⟩ | assumption | (first | go_keep | (obtain ⟨hq, _⟩ := bcell ‹Below _ _ _›; (repeat' apply And.intro) <;> (rw [hq _ _ (by first | assumption | omega | (simp; done) | (simp; omega) | (simp; assumption))] <;> (first | assumption | (simp [*]; done)))))))
          clear hK K hHeld
          have hHeld := hHeld37; clear hHeld37
          try simp only [Act.put, List.setIfInBounds_toArray, List.set_cons_zero, List.set_cons_succ]
          refine wpAnyH_take_d (i := 10) (d := some 78) (v := ?v38) rfl rfl (by kernel_rfl) (by kernel_rfl) (by kernel_rfl) (fun _ _ _ h => h) (Or.inl ⟨by kernel_rfl, ?y38⟩) (by assumption) ?_
          case y38 => (intro w' hSw; (try dsimp only at hSw); go_simp; try with_reducible rfl)
          try simp only [Act.put, List.setIfInBounds_toArray, List.set_cons_zero, List.set_cons_succ]
          refine wpAnyH_take_d (i := 11) (d := some 79) (v := ?v39) rfl rfl (by kernel_rfl) (by kernel_rfl) (by kernel_rfl) (fun _ _ _ h => h) (Or.inl ⟨by kernel_rfl, ?y39⟩) (by assumption) ?_
          case y39 => (intro w' hSw; (try dsimp only at hSw); go_simp; try with_reducible rfl)
          try simp only [Act.put, List.setIfInBounds_toArray, List.set_cons_zero, List.set_cons_succ]
          have KB2 := KB.out.drew.alloc (.cells #[.int .i64 x1, .int .i64 z1] 40); have hS2 : (u.drew.alloc (.cells #[.int .i64 x1, .int .i64 z1] 40)).cell? ⟨wr.heap.size, 1, none⟩ = some (.int .i64 x1) ∧ (u.drew.alloc (.cells #[.int .i64 x1, .int .i64 z1] 40)).cell? ⟨gg, 0, none⟩ = some (.int .i64 n) := ⟨KB2.cellAt 1 _ rfl, ((bcell hB3).1 _ _ zg).trans (Kg'.cellAt 0 _ rfl)⟩
          refine wpAnyH_ready (rs := [12]) (by kernel_rfl) (by simp) ?_
          refine AllReadyH.cons rfl (fun K hK => ?_) AllReadyH.nil
          go_simp
          refine hK.out _ _ ?s40 (fun hHeld40 => ?_)
          case s40 => ((try dsimp only); (first | exact hS3 | exact hS2 | exact ⟨u1, ag⟩ | assumption | (first | go_keep | (obtain ⟨hq, _⟩ := bcell ‹Below _ _ _›; (repeat' apply And.intro) <;> (rw [hq _ _ (by first | assumption | omega | (simp; done) | (simp; omega) | (simp; assumption))] <;> (first | assumption | (simp [*]; done)))))))
          clear hK K hHeld
          have hHeld := hHeld40; clear hHeld40
          try simp only [Act.put, List.setIfInBounds_toArray, List.set_cons_zero, List.set_cons_succ]
          refine wpAnyH_ready (rs := [13]) (by kernel_rfl) (by simp) ?_
          refine AllReadyH.cons rfl (fun K hK => ?_) AllReadyH.nil
          refine wp_appendE rfl w.heap.size _ (KN + q0 + 1) (P0 ++ [(x0, z0)]) rfl hown2 u.heap.size 0 1 1 [(x1, z1)] rfl rfl hnew (by have := HKq.out; omega) (by omega) (by have := Hzu.out; simp; omega) ?_
          intro v' w3 hown3 hfr hgr
          have b31 := hfr w.heap.size w (Nat.le_refl _) hb9
          have HV3 := own_same (own_below HV.out hB3) fun t cs ht hB => hB.grown' hown2 hgr (by rw [ht]; decide)
          have KB3 := KB2.grown hgr HE.out (Nat.le_refl _)
          have hS3 : w3.cell? ⟨wr.heap.size, 1, none⟩ = some (.int .i64 x1) ∧ w3.cell? ⟨gg, 0, none⟩ = some (.int .i64 n) := ⟨KB3.cellAt 1 _ rfl, ((Kg'.below hB3 zg).grown' hown2 hgr (by decide)).cellAt 0 _ rfl⟩
          refine hK.out _ _ ?s41 (fun hHeld41 => ?_)
          case s41 => ((try dsimp only); (first | exact hS3 | exact hS2 | exact ⟨u1, ag⟩ | assumption | (first | go_keep | (obtain ⟨hq, _⟩ := bcell ‹Below _ _ _›; (repeat' apply And.intro) <;> (rw [hq _ _ (by first | assumption | omega | (simp; done) | (simp; omega) | (simp; assumption))] <;> (first | assumption | (simp [*]; done)))))))
          clear hK K hHeld
          have hHeld := hHeld41; clear hHeld41
          try simp only [Act.put, List.setIfInBounds_toArray, List.set_cons_zero, List.set_cons_succ]
          refine wpAnyH_take_d (i := 14) (d := some 10) (v := ?v42) rfl rfl (by kernel_rfl) (by kernel_rfl) (by kernel_rfl) (fun _ _ _ h => h) (Or.inl ⟨by kernel_rfl, ?y42⟩) (by assumption) ?_
          case y42 => (intro w' hSw; (try dsimp only at hSw); go_simp; try with_reducible rfl)
          try simp only [Act.put, List.setIfInBounds_toArray, List.set_cons_zero, List.set_cons_succ]
          refine wpAnyH_done (by kernel_rfl) ?_ _
          refine NoPanic.normal ?_
          have Hb3 := Lib.hid b31
          have HV10 := Lib.hid HV3
          have HE3 : Hid (w3.ownsRow w.heap.size 40 2 v' (KN + q0 + 2) (cE ((P0 ++ [(x0, z0)]) ++ [(x1, z1)]))) := hown3
          clear hHeld hS3 hS2 b31 HV3 hown3 hfr hgr hown2 hnew hB3 hb9 HE HV Hbel d1 n0 n1 ag u1 KB KB2 KB3 hbu w1' K1' K2' Kg' zg zgv
          go_wp2
          exact ⟨⟨.inr (.inr (.inl ⟨rfl, HE3⟩)), HV10, Hb3⟩, by simp [intOf]⟩
        · obtain ⟨A5, c5, rfl⟩ := own_form HE.out
          obtain ⟨r, Hr⟩ : ∃ r : Int, Hid ((p2 : Int) - (shC T p2 : Nat) = r) := ⟨_, rfl⟩
          have Hzr : Hid (r + n = z2) := by show _ = _; rw [← Hr.out, ← Hz2.out]; rfl
          have hrb : 0 ≤ r ∧ r ≤ 60 := by rw [← Hr.out]; exact Hzz.out p2 (by have := Hp.out; omega)
          have cf := fun W => shifted_b p2 T W (by have := Hp.out; omega) HT63.out
          rw [Hr.out] at cf
          have cf := Lib.hid cf
          have V1 : Hid (IntKind.i64.wrap (r + n) = z2) := by show _ = _; rw [← Hzr.out]; have := Hn.out; exact IntWalk.i64_in _ (by omega)
          clear hrb
          have d1 : wr.cell? ⟨gv, 2, none⟩ = some (.int .i64 (p2 : Int)) := own_cellI HV.out rfl (by decide)
          have n0 := K1'.cellAt 0 _ rfl
          have n1 := K1'.cellAt 1 _ rfl
          obtain ⟨u, hu⟩ : ∃ u, u = (wr.alloc (.cells #[.int .i64 y0, .int .i64 y1] 40)) := ⟨_, rfl⟩
          have hbu : Below wr.heap.size wr u := by rw [hu]; exact Below.alloc (Below.refl _ _) (Nat.le_refl _) _
          have Hzu : Hid (u.heap.size = wr.heap.size + 1) := by show _ = _; rw [hu]; simp [World.size_setCell]
          have KB : Hid (Blk u wr.heap.size 40 #[.int .i64 y0, .int .i64 y1]) := by rw [hu]; exact Blk.new wr _ _
          have ag := (Kg'.below hbu Kg'.lt).cellAt 0 _ rfl
          have u0 := KB.out.cellAt 0 _ rfl
          have hB3 : Below wr.heap.size wr (u.drew.alloc (.cells #[.int .i64 y0, .int .i64 z2] 40)) := (Below.drew hbu).alloc (by have := Hzu.out; simp; omega) _
          have hown2 := own_below HE.out hB3
          have hnew : RdE (u.drew.alloc (.cells #[.int .i64 y0, .int .i64 z2] 40)) (some ⟨u.heap.size, 0, none⟩) [(y0, z2)] := blkE_rd (t := 40) (es := [(y0, z2)]) (Blk.new' (n := u.heap.size) _ (by simp))
          have hb9 : Below w.heap.size w (u.drew.alloc (.cells #[.int .i64 y0, .int .i64 z2] 40)) := Hbel.out.trans (hB3.mono hsz)
          have zg := Kg'.lt
          have m0 := (K2'.alloc (.cells #[.int .i64 x0, .int .i64 x1] 40)).cellAt 0 _ rfl
          have m1 := (K2'.alloc (.cells #[.int .i64 x0, .int .i64 x1] 40)).cellAt 1 _ rfl
          have fz0 := (Blk.new wr 40 #[.int .i64 x0, .int .i64 x1]).frozen 0
          have fz1 := (Blk.new wr 40 #[.int .i64 x0, .int .i64 x1]).frozen 1
          have nn0 := (Blk.new wr 40 #[.int .i64 x0, .int .i64 x1]).cellAt 0 _ rfl
          have nn1 := (Blk.new wr 40 #[.int .i64 x0, .int .i64 x1]).cellAt 1 _ rfl
          go_wp2_with fail
          rw [← hu]
          clear hu
          have w1' := V1.out
          refine wp_region_noPanic ?_
          refine wp_region_held_drew (S := (fun w' => w'.cell? ⟨wr.heap.size, 0, none⟩ = some (.int .i64 y0) ∧ w'.cell? ⟨gg, 0, none⟩ = some (.int .i64 n))) (by kernel_rfl) ?_ (fun hHeld => ?_)
          · (try dsimp only); (first | exact hS3 | exact hS2 | exact ⟨u0, ag⟩ | assumption | (first | go_keep | (obtain ⟨hq, _⟩ := bcell ‹Below _ _ _›; (repeat' apply And.intro) <;> (rw [hq _ _ (by first | assumption | omega | (simp; done) | (simp; omega) | (simp; assumption))] <;> (first | assumption | (simp [*]; done))))))
          refine wpAnyH_take_d (i := 0) (d := some 68) (v := ?v43) rfl rfl (by kernel_rfl) (by kernel_rfl) (by kernel_rfl) (fun _ _ _ h => h) (Or.inl ⟨by kernel_rfl, ?y43⟩) (by assumption) ?_
          case y43 => (intro w' hSw; (try dsimp only at hSw); go_simp; try with_reducible rfl)
          try simp only [Act.put, List.setIfInBounds_toArray, List.set_cons_zero, List.set_cons_succ]
          refine wpAnyH_take_d (i := 1) (d := some 69) (v := ?v44) rfl rfl (by kernel_rfl) (by kernel_rfl) (by kernel_rfl) (fun _ _ _ h => h) (Or.inl ⟨by kernel_rfl, ?y44⟩) (by assumption) ?_
          case y44 => (intro w' hSw; (try dsimp only at hSw); go_simp; try with_reducible rfl)
          try simp only [Act.put, List.setIfInBounds_toArray, List.set_cons_zero, List.set_cons_succ]
          refine wpAnyH_take_d (i := 2) (d := some 70) (v := ?v45) rfl rfl (by kernel_rfl) (by kernel_rfl) (by kernel_rfl) (fun _ _ _ h => h) (Or.inl ⟨by kernel_rfl, ?y45⟩) (by assumption) ?_
          case y45 => (intro w' hSw; (try dsimp only at hSw); go_simp; try with_reducible rfl)
          try simp only [Act.put, List.setIfInBounds_toArray, List.set_cons_zero, List.set_cons_succ]
          refine wpAnyH_take_d (i := 3) (d := some 71) (v := ?v46) rfl rfl (by kernel_rfl) (by kernel_rfl) (by kernel_rfl) (fun _ _ _ h => h) (Or.inl ⟨by kernel_rfl, ?y46⟩) (by assumption) ?_
          case y46 => (intro w' hSw; (try dsimp only at hSw); go_simp; try with_reducible rfl)
          try simp only [Act.put, List.setIfInBounds_toArray, List.set_cons_zero, List.set_cons_succ]
          refine wpAnyH_take_d (i := 4) (d := some 72) (v := ?v47) rfl rfl (by kernel_rfl) (by kernel_rfl) (by kernel_rfl) (fun _ _ _ h => h) (Or.inl ⟨by kernel_rfl, ?y47⟩) (by assumption) ?_
          case y47 => (intro w' hSw; (try dsimp only at hSw); go_simp; try with_reducible rfl)
          try simp only [Act.put, List.setIfInBounds_toArray, List.set_cons_zero, List.set_cons_succ]
          refine wpAnyH_take_d (i := 5) (d := some 73) (v := ?v48) rfl rfl (by kernel_rfl) (by kernel_rfl) (by kernel_rfl) (fun _ _ _ h => h) (Or.inl ⟨by kernel_rfl, ?y48⟩) (by assumption) ?_
          case y48 => (intro w' hSw; (try dsimp only at hSw); go_simp; try with_reducible rfl)
          try simp only [Act.put, List.setIfInBounds_toArray, List.set_cons_zero, List.set_cons_succ]
          refine wpAnyH_take_d (i := 6) (d := some 74) (v := ?v49) rfl rfl (by kernel_rfl) (by kernel_rfl) (by kernel_rfl) (fun _ _ _ h => h) (Or.inl ⟨by kernel_rfl, ?y49⟩) (by assumption) ?_
          case y49 => (intro w' hSw; (try dsimp only at hSw); go_simp; try with_reducible rfl)
          try simp only [Act.put, List.setIfInBounds_toArray, List.set_cons_zero, List.set_cons_succ]
          refine wpAnyH_take_d (i := 8) (d := some 76) (v := ?v50) rfl rfl (by kernel_rfl) (by kernel_rfl) (by kernel_rfl) (fun _ _ _ h => h) (Or.inl ⟨by kernel_rfl, ?y50⟩) (by assumption) ?_
          case y50 => (intro w' hSw; (try dsimp only at hSw); go_simp; try with_reducible rfl)
          try simp only [Act.put, List.setIfInBounds_toArray, List.set_cons_zero, List.set_cons_succ]
          refine wpAnyH_take_d (i := 9) (d := some 77) (v := ?v51) rfl rfl (by kernel_rfl) (by kernel_rfl) (by kernel_rfl) (fun _ _ _ h => h) (Or.inl ⟨by kernel_rfl, ?y51⟩) (by assumption) ?_
          case y51 => (intro w' hSw; (try dsimp only at hSw); go_simp; try with_reducible rfl)
          try simp only [Act.put, List.setIfInBounds_toArray, List.set_cons_zero, List.set_cons_succ]
          refine wpAnyH_ready (rs := [7]) (by kernel_rfl) (by simp) ?_
          refine AllReadyH.cons rfl (fun K hK => ?_) AllReadyH.nil
          go_simp
          refine (cf.out _).mono ?_; rintro e9 w9 ⟨rfl, rfl⟩
          refine hK.out _ _ ?s52 (fun hHeld52 => ?_)
          case s52 => ((try dsimp only); (first | exact hS3 | exact hS2 | exact ⟨u0, ag⟩ | assumption | (first | go_keep | (obtain ⟨hq, _⟩ := bcell ‹Below _ _ _›; (repeat' apply And.intro) <;> (rw [hq _ _ (by first | assumption | omega | (simp; done) | (simp; omega) | (simp; assumption))] <;> (first | assumption | (simp [*]; done)))))))
          clear hK K hHeld
          have hHeld := hHeld52; clear hHeld52
          try simp only [Act.put, List.setIfInBounds_toArray, List.set_cons_zero, List.set_cons_succ]
          refine wpAnyH_take_d (i := 10) (d := some 78) (v := ?v53) rfl rfl (by kernel_rfl) (by kernel_rfl) (by kernel_rfl) (fun _ _ _ h => h) (Or.inl ⟨by kernel_rfl, ?y53⟩) (by assumption) ?_
          case y53 => (intro w' hSw; (try dsimp only at hSw); go_simp; try with_reducible rfl)
          try simp only [Act.put, List.setIfInBounds_toArray, List.set_cons_zero, List.set_cons_succ]
          refine wpAnyH_take_d (i := 11) (d := some 79) (v := ?v54) rfl rfl (by kernel_rfl) (by kernel_rfl) (by kernel_rfl) (fun _ _ _ h => h) (Or.inl ⟨by kernel_rfl, ?y54⟩) (by assumption) ?_
          case y54 => (intro w' hSw; (try dsimp only at hSw); go_simp; try with_reducible rfl)
          try simp only [Act.put, List.setIfInBounds_toArray, List.set_cons_zero, List.set_cons_succ]
          have KB2 := KB.out.drew.alloc (.cells #[.int .i64 y0, .int .i64 z2] 40); have hS2 : (u.drew.alloc (.cells #[.int .i64 y0, .int .i64 z2] 40)).cell? ⟨wr.heap.size, 0, none⟩ = some (.int .i64 y0) ∧ (u.drew.alloc (.cells #[.int .i64 y0, .int .i64 z2] 40)).cell? ⟨gg, 0, none⟩ = some (.int .i64 n) := ⟨KB2.cellAt 0 _ rfl, ((bcell hB3).1 _ _ zg).trans (Kg'.cellAt 0 _ rfl)⟩
          refine wpAnyH_ready (rs := [12]) (by kernel_rfl) (by simp) ?_
          refine AllReadyH.cons rfl (fun K hK => ?_) AllReadyH.nil
          go_simp
          refine hK.out _ _ ?s55 (fun hHeld55 => ?_)
          case s55 => ((try dsimp only); (first | exact hS3 | exact hS2 | exact ⟨u0, ag⟩ | assumption | (first | go_keep | (obtain ⟨hq, _⟩ := bcell ‹Below _ _ _›; (repeat' apply And.intro) <;> (rw [hq _ _ (by first | assumption | omega | (simp; done) | (simp; omega) | (simp; assumption))] <;> (first | assumption | (simp [*]; done)))))))
          clear hK K hHeld
          have hHeld := hHeld55; clear hHeld55
          try simp only [Act.put, List.setIfInBounds_toArray, List.set_cons_zero, List.set_cons_succ]
          refine wpAnyH_ready (rs := [13]) (by kernel_rfl) (by simp) ?_
          refine AllReadyH.cons rfl (fun K hK => ?_) AllReadyH.nil
          refine wp_appendE rfl w.heap.size _ (KN + q0 + 2) ((P0 ++ [(x0, z0)]) ++ [(x1, z1)]) rfl hown2 u.heap.size 0 1 1 [(y0, z2)] rfl rfl hnew (by have := HKq.out; omega) (by omega) (by have := Hzu.out; simp; omega) ?_
          intro v' w3 hown3 hfr hgr
          have b31 := hfr w.heap.size w (Nat.le_refl _) hb9
          have HV3 := own_same (own_below HV.out hB3) fun t cs ht hB => hB.grown' hown2 hgr (by rw [ht]; decide)
          have KB3 := KB2.grown hgr HE.out (Nat.le_refl _)
          have hS3 : w3.cell? ⟨wr.heap.size, 0, none⟩ = some (.int .i64 y0) ∧ w3.cell? ⟨gg, 0, none⟩ = some (.int .i64 n) := ⟨KB3.cellAt 0 _ rfl, ((Kg'.below hB3 zg).grown' hown2 hgr (by decide)).cellAt 0 _ rfl⟩
          refine hK.out _ _ ?s56 (fun hHeld56 => ?_)
          case s56 => ((try dsimp only); (first | exact hS3 | exact hS2 | exact ⟨u0, ag⟩ | assumption | (first | go_keep | (obtain ⟨hq, _⟩ := bcell ‹Below _ _ _›; (repeat' apply And.intro) <;> (rw [hq _ _ (by first | assumption | omega | (simp; done) | (simp; omega) | (simp; assumption))] <;> (first | assumption | (simp [*]; done)))))))
          clear hK K hHeld
          have hHeld := hHeld56; clear hHeld56
          try simp only [Act.put, List.setIfInBounds_toArray, List.set_cons_zero, List.set_cons_succ]
          refine wpAnyH_take_d (i := 14) (d := some 10) (v := ?v57) rfl rfl (by kernel_rfl) (by kernel_rfl) (by kernel_rfl) (fun _ _ _ h => h) (Or.inl ⟨by kernel_rfl, ?y57⟩) (by assumption) ?_
          case y57 => (intro w' hSw; (try dsimp only at hSw); go_simp; try with_reducible rfl)
          try simp only [Act.put, List.setIfInBounds_toArray, List.set_cons_zero, List.set_cons_succ]
          refine wpAnyH_done (by kernel_rfl) ?_ _
          refine NoPanic.normal ?_
          have Hb3 := Lib.hid b31
          have HV10 := Lib.hid HV3
          have HE3 : Hid (w3.ownsRow w.heap.size 40 2 v' (KN + q0 + 3) (cE (((P0 ++ [(x0, z0)]) ++ [(x1, z1)]) ++ [(y0, z2)]))) := hown3
          clear hHeld hS3 hS2 b31 HV3 hown3 hfr hgr hown2 hnew hB3 hb9 HE HV Hbel d1 n0 n1 ag u0 KB KB2 KB3 hbu w1' K1' K2' Kg' zg zgv
          go_wp2
          exact ⟨⟨.inr (.inr (.inr (.inl ⟨rfl, HE3⟩))), HV10, Hb3⟩, by simp [intOf]⟩
        · obtain ⟨A5, c5, rfl⟩ := own_form HE.out
          obtain ⟨r, Hr⟩ : ∃ r : Int, Hid ((p3 : Int) - (shC T p3 : Nat) = r) := ⟨_, rfl⟩
          have Hzr : Hid (r + n = z3) := by show _ = _; rw [← Hr.out, ← Hz3.out]; rfl
          have hrb : 0 ≤ r ∧ r ≤ 60 := by rw [← Hr.out]; exact Hzz.out p3 (by have := Hp.out; omega)
          have cf := fun W => shifted_b p3 T W (by have := Hp.out; omega) HT63.out
          rw [Hr.out] at cf
          have cf := Lib.hid cf
          have V1 : Hid (IntKind.i64.wrap (r + n) = z3) := by show _ = _; rw [← Hzr.out]; have := Hn.out; exact IntWalk.i64_in _ (by omega)
          clear hrb
          have d1 : wr.cell? ⟨gv, 3, none⟩ = some (.int .i64 (p3 : Int)) := own_cellI HV.out rfl (by decide)
          have n0 := K1'.cellAt 0 _ rfl
          have n1 := K1'.cellAt 1 _ rfl
          obtain ⟨u, hu⟩ : ∃ u, u = (wr.alloc (.cells #[.int .i64 y0, .int .i64 y1] 40)) := ⟨_, rfl⟩
          have hbu : Below wr.heap.size wr u := by rw [hu]; exact Below.alloc (Below.refl _ _) (Nat.le_refl _) _
          have Hzu : Hid (u.heap.size = wr.heap.size + 1) := by show _ = _; rw [hu]; simp [World.size_setCell]
          have KB : Hid (Blk u wr.heap.size 40 #[.int .i64 y0, .int .i64 y1]) := by rw [hu]; exact Blk.new wr _ _
          have ag := (Kg'.below hbu Kg'.lt).cellAt 0 _ rfl
          have u1 := KB.out.cellAt 1 _ rfl
          have hB3 : Below wr.heap.size wr (u.drew.alloc (.cells #[.int .i64 y1, .int .i64 z3] 40)) := (Below.drew hbu).alloc (by have := Hzu.out; simp; omega) _
          have hown2 := own_below HE.out hB3
          have hnew : RdE (u.drew.alloc (.cells #[.int .i64 y1, .int .i64 z3] 40)) (some ⟨u.heap.size, 0, none⟩) [(y1, z3)] := blkE_rd (t := 40) (es := [(y1, z3)]) (Blk.new' (n := u.heap.size) _ (by simp))
          have hb9 : Below w.heap.size w (u.drew.alloc (.cells #[.int .i64 y1, .int .i64 z3] 40)) := Hbel.out.trans (hB3.mono hsz)
          have zg := Kg'.lt
          have m0 := (K2'.alloc (.cells #[.int .i64 x0, .int .i64 x1] 40)).cellAt 0 _ rfl
          have m1 := (K2'.alloc (.cells #[.int .i64 x0, .int .i64 x1] 40)).cellAt 1 _ rfl
          have fz0 := (Blk.new wr 40 #[.int .i64 x0, .int .i64 x1]).frozen 0
          have fz1 := (Blk.new wr 40 #[.int .i64 x0, .int .i64 x1]).frozen 1
          have nn0 := (Blk.new wr 40 #[.int .i64 x0, .int .i64 x1]).cellAt 0 _ rfl
          have nn1 := (Blk.new wr 40 #[.int .i64 x0, .int .i64 x1]).cellAt 1 _ rfl
          go_wp2_with fail
          rw [← hu]
          clear hu
          have w1' := V1.out
          refine wp_region_noPanic ?_
          refine wp_region_held_drew (S := (fun w' => w'.cell? ⟨wr.heap.size, 1, none⟩ = some (.int .i64 y1) ∧ w'.cell? ⟨gg, 0, none⟩ = some (.int .i64 n))) (by kernel_rfl) ?_ (fun hHeld => ?_)
          · (try dsimp only); (first | exact hS3 | exact hS2 | exact ⟨u1, ag⟩ | assumption | (first | go_keep | (obtain ⟨hq, _⟩ := bcell ‹Below _ _ _›; (repeat' apply And.intro) <;> (rw [hq _ _ (by first | assumption | omega | (simp; done) | (simp; omega) | (simp; assumption))] <;> (first | assumption | (simp [*]; done))))))
          refine wpAnyH_take_d (i := 0) (d := some 68) (v := ?v58) rfl rfl (by kernel_rfl) (by kernel_rfl) (by kernel_rfl) (fun _ _ _ h => h) (Or.inl ⟨by kernel_rfl, ?y58⟩) (by assumption) ?_
          case y58 => (intro w' hSw; (try dsimp only at hSw); go_simp; try with_reducible rfl)
          try simp only [Act.put, List.setIfInBounds_toArray, List.set_cons_zero, List.set_cons_succ]
          refine wpAnyH_take_d (i := 1) (d := some 69) (v := ?v59) rfl rfl (by kernel_rfl) (by kernel_rfl) (by kernel_rfl) (fun _ _ _ h => h) (Or.inl ⟨by kernel_rfl, ?y59⟩) (by assumption) ?_
          case y59 => (intro w' hSw; (try dsimp only at hSw); go_simp; try with_reducible rfl)
          try simp only [Act.put, List.setIfInBounds_toArray, List.set_cons_zero, List.set_cons_succ]
          refine wpAnyH_take_d (i := 2) (d := some 70) (v := ?v60) rfl rfl (by kernel_rfl) (by kernel_rfl) (by kernel_rfl) (fun _ _ _ h => h) (Or.inl ⟨by kernel_rfl, ?y60⟩) (by assumption) ?_
          case y60 => (intro w' hSw; (try dsimp only at hSw); go_simp; try with_reducible rfl)
          try simp only [Act.put, List.setIfInBounds_toArray, List.set_cons_zero, List.set_cons_succ]
          refine wpAnyH_take_d (i := 3) (d := some 71) (v := ?v61) rfl rfl (by kernel_rfl) (by kernel_rfl) (by kernel_rfl) (fun _ _ _ h => h) (Or.inl ⟨by kernel_rfl, ?y61⟩) (by assumption) ?_
          case y61 => (intro w' hSw; (try dsimp only at hSw); go_simp; try with_reducible rfl)
          try simp only [Act.put, List.setIfInBounds_toArray, List.set_cons_zero, List.set_cons_succ]
          refine wpAnyH_take_d (i := 4) (d := some 72) (v := ?v62) rfl rfl (by kernel_rfl) (by kernel_rfl) (by kernel_rfl) (fun _ _ _ h => h) (Or.inl ⟨by kernel_rfl, ?y62⟩) (by assumption) ?_
          case y62 => (intro w' hSw; (try dsimp only at hSw); go_simp; try with_reducible rfl)
          try simp only [Act.put, List.setIfInBounds_toArray, List.set_cons_zero, List.set_cons_succ]
          refine wpAnyH_take_d (i := 5) (d := some 73) (v := ?v63) rfl rfl (by kernel_rfl) (by kernel_rfl) (by kernel_rfl) (fun _ _ _ h => h) (Or.inl ⟨by kernel_rfl, ?y63⟩) (by assumption) ?_
          case y63 => (intro w' hSw; (try dsimp only at hSw); go_simp; try with_reducible rfl)
          try simp only [Act.put, List.setIfInBounds_toArray, List.set_cons_zero, List.set_cons_succ]
          refine wpAnyH_take_d (i := 6) (d := some 74) (v := ?v64) rfl rfl (by kernel_rfl) (by kernel_rfl) (by kernel_rfl) (fun _ _ _ h => h) (Or.inl ⟨by kernel_rfl, ?y64⟩) (by assumption) ?_
          case y64 => (intro w' hSw; (try dsimp only at hSw); go_simp; try with_reducible rfl)
          try simp only [Act.put, List.setIfInBounds_toArray, List.set_cons_zero, List.set_cons_succ]
          refine wpAnyH_take_d (i := 8) (d := some 76) (v := ?v65) rfl rfl (by kernel_rfl) (by kernel_rfl) (by kernel_rfl) (fun _ _ _ h => h) (Or.inl ⟨by kernel_rfl, ?y65⟩) (by assumption) ?_
          case y65 => (intro w' hSw; (try dsimp only at hSw); go_simp; try with_reducible rfl)
          try simp only [Act.put, List.setIfInBounds_toArray, List.set_cons_zero, List.set_cons_succ]
          refine wpAnyH_take_d (i := 9) (d := some 77) (v := ?v66) rfl rfl (by kernel_rfl) (by kernel_rfl) (by kernel_rfl) (fun _ _ _ h => h) (Or.inl ⟨by kernel_rfl, ?y66⟩) (by assumption) ?_
          case y66 => (intro w' hSw; (try dsimp only at hSw); go_simp; try with_reducible rfl)
          try simp only [Act.put, List.setIfInBounds_toArray, List.set_cons_zero, List.set_cons_succ]
          refine wpAnyH_ready (rs := [7]) (by kernel_rfl) (by simp) ?_
          refine AllReadyH.cons rfl (fun K hK => ?_) AllReadyH.nil
          go_simp
          refine (cf.out _).mono ?_; rintro e9 w9 ⟨rfl, rfl⟩
          refine hK.out _ _ ?s67 (fun hHeld67 => ?_)
          case s67 => ((try dsimp only); (first | exact hS3 | exact hS2 | exact ⟨u1, ag⟩ | assumption | (first | go_keep | (obtain ⟨hq, _⟩ := bcell ‹Below _ _ _›; (repeat' apply And.intro) <;> (rw [hq _ _ (by first | assumption | omega | (simp; done) | (simp; omega) | (simp; assumption))] <;> (first | assumption | (simp [*]; done)))))))
          clear hK K hHeld
          have hHeld := hHeld67; clear hHeld67
          try simp only [Act.put, List.setIfInBounds_toArray, List.set_cons_zero, List.set_cons_succ]
          refine wpAnyH_take_d (i := 10) (d := some 78) (v := ?v68) rfl rfl (by kernel_rfl) (by kernel_rfl) (by kernel_rfl) (fun _ _ _ h => h) (Or.inl ⟨by kernel_rfl, ?y68⟩) (by assumption) ?_
          case y68 => (intro w' hSw; (try dsimp only at hSw); go_simp; try with_reducible rfl)
          try simp only [Act.put, List.setIfInBounds_toArray, List.set_cons_zero, List.set_cons_succ]
          refine wpAnyH_take_d (i := 11) (d := some 79) (v := ?v69) rfl rfl (by kernel_rfl) (by kernel_rfl) (by kernel_rfl) (fun _ _ _ h => h) (Or.inl ⟨by kernel_rfl, ?y69⟩) (by assumption) ?_
          case y69 => (intro w' hSw; (try dsimp only at hSw); go_simp; try with_reducible rfl)
          try simp only [Act.put, List.setIfInBounds_toArray, List.set_cons_zero, List.set_cons_succ]
          have KB2 := KB.out.drew.alloc (.cells #[.int .i64 y1, .int .i64 z3] 40); have hS2 : (u.drew.alloc (.cells #[.int .i64 y1, .int .i64 z3] 40)).cell? ⟨wr.heap.size, 1, none⟩ = some (.int .i64 y1) ∧ (u.drew.alloc (.cells #[.int .i64 y1, .int .i64 z3] 40)).cell? ⟨gg, 0, none⟩ = some (.int .i64 n) := ⟨KB2.cellAt 1 _ rfl, ((bcell hB3).1 _ _ zg).trans (Kg'.cellAt 0 _ rfl)⟩
          refine wpAnyH_ready (rs := [12]) (by kernel_rfl) (by simp) ?_
          refine AllReadyH.cons rfl (fun K hK => ?_) AllReadyH.nil
          go_simp
          refine hK.out _ _ ?s70 (fun hHeld70 => ?_)
          case s70 => ((try dsimp only); (first | exact hS3 | exact hS2 | exact ⟨u1, ag⟩ | assumption | (first | go_keep | (obtain ⟨hq, _⟩ := bcell ‹Below _ _ _›; (repeat' apply And.intro) <;> (rw [hq _ _ (by first | assumption | omega | (simp; done) | (simp; omega) | (simp; assumption))] <;> (first | assumption | (simp [*]; done)))))))
          clear hK K hHeld
          have hHeld := hHeld70; clear hHeld70
          try simp only [Act.put, List.setIfInBounds_toArray, List.set_cons_zero, List.set_cons_succ]
          refine wpAnyH_ready (rs := [13]) (by kernel_rfl) (by simp) ?_
          refine AllReadyH.cons rfl (fun K hK => ?_) AllReadyH.nil
          refine wp_appendE rfl w.heap.size _ (KN + q0 + 3) (((P0 ++ [(x0, z0)]) ++ [(x1, z1)]) ++ [(y0, z2)]) rfl hown2 u.heap.size 0 1 1 [(y1, z3)] rfl rfl hnew (by have := HKq.out; omega) (by omega) (by have := Hzu.out; simp; omega) ?_
          intro v' w3 hown3 hfr hgr
          have b31 := hfr w.heap.size w (Nat.le_refl _) hb9
          have HV3 := own_same (own_below HV.out hB3) fun t cs ht hB => hB.grown' hown2 hgr (by rw [ht]; decide)
          have KB3 := KB2.grown hgr HE.out (Nat.le_refl _)
          have hS3 : w3.cell? ⟨wr.heap.size, 1, none⟩ = some (.int .i64 y1) ∧ w3.cell? ⟨gg, 0, none⟩ = some (.int .i64 n) := ⟨KB3.cellAt 1 _ rfl, ((Kg'.below hB3 zg).grown' hown2 hgr (by decide)).cellAt 0 _ rfl⟩
          refine hK.out _ _ ?s71 (fun hHeld71 => ?_)
          case s71 => ((try dsimp only); (first | exact hS3 | exact hS2 | exact ⟨u1, ag⟩ | assumption | (first | go_keep | (obtain ⟨hq, _⟩ := bcell ‹Below _ _ _›; (repeat' apply And.intro) <;> (rw [hq _ _ (by first | assumption | omega | (simp; done) | (simp; omega) | (simp; assumption))] <;> (first | assumption | (simp [*]; done)))))))
          clear hK K hHeld
          have hHeld := hHeld71; clear hHeld71
          try simp only [Act.put, List.setIfInBounds_toArray, List.set_cons_zero, List.set_cons_succ]
          refine wpAnyH_take_d (i := 14) (d := some 10) (v := ?v72) rfl rfl (by kernel_rfl) (by kernel_rfl) (by kernel_rfl) (fun _ _ _ h => h) (Or.inl ⟨by kernel_rfl, ?y72⟩) (by assumption) ?_
          case y72 => (intro w' hSw; (try dsimp only at hSw); go_simp; try with_reducible rfl)
          try simp only [Act.put, List.setIfInBounds_toArray, List.set_cons_zero, List.set_cons_succ]
          refine wpAnyH_done (by kernel_rfl) ?_ _
          refine NoPanic.normal ?_
          have Hb3 := Lib.hid b31
          have HV10 := Lib.hid HV3
          have HE3 : Hid (w3.ownsRow w.heap.size 40 2 v' (KN + q0 + 4) (cE ((((P0 ++ [(x0, z0)]) ++ [(x1, z1)]) ++ [(y0, z2)]) ++ [(y1, z3)]))) := hown3
          clear hHeld hS3 hS2 b31 HV3 hown3 hfr hgr hown2 hnew hB3 hb9 HE HV Hbel d1 n0 n1 ag u1 KB KB2 KB3 hbu w1' K1' K2' Kg' zg zgv
          go_wp2
          exact ⟨⟨.inr (.inr (.inr (.inr (⟨rfl, HE3⟩)))), HV10, Hb3⟩, by simp [intOf]⟩
        · obtain ⟨A5, c5, rfl⟩ := own_form HE.out
          have Hlen : Hid ((((((P0 ++ [(x0, z0)]) ++ [(x1, z1)]) ++ [(y0, z2)]) ++ [(y1, z3)])).length = KN + q0 + 4) := (own_lenE HE.out).symm
          go_wp2
          go_ret
          exact ⟨A5, c5, by rw [Hlen.out]; rfl, own_rdE HE.out, Hbel.out⟩
end Go.Proofs.YtjgmoffkecnmcaaGreat
