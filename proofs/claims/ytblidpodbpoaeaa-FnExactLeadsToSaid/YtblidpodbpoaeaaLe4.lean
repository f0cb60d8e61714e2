/- The reference's l10Rows. No statement of the program is proved here. -/
import Derived.Test.YtblidpodbpoaeaaLe1
import Derived.Test.YtblidpodbpoaeaaZm
import Derived.Test.YtblidpodbpoaeaaSp1
namespace Go.Proofs.Ytblidpodbpoaeaa
open Go.RowKit
set_option linter.unusedSimpArgs false
set_option linter.unusedVariables false
set_option maxRecDepth 20000

def pairM (es : List (Int × Int)) : Nat → Nat → Int := fun i j => (pairN es (i : Int) (j : Int) : Nat)
theorem pairN_nil (i j : Int) : pairN [] i j = 0 := rfl
theorem pairN_snoc (es : List (Int × Int)) (e : Int × Int) (i j : Int) : pairN (es ++ [e]) i j = pairN es i j + (if joinsE i j e = true then 1 else 0) := by
  unfold pairN
  rw [List.countP_append]
  cases h : joinsE i j e <;> simp [h]
theorem pairN_le (es : List (Int × Int)) (i j : Int) : pairN es i j ≤ es.length := List.countP_le_length
theorem pairM_step {es : List (Int × Int)} {a b : Nat} (hab : a ≠ b) (i j : Nat) :
    putM (putM (pairM es) a b (pairM es a b + 1)) b a (pairM es b a + 1) i j = pairM (es ++ [((a : Int), (b : Int))]) i j := by
  unfold putM pairM
  rw [pairN_snoc]
  have hj : joinsE (i : Int) (j : Int) ((a : Int), (b : Int)) = true ↔ (a = i ∧ b = j) ∨ (a = j ∧ b = i) := by
    rw [joinsE_iff]; dsimp only; omega
  by_cases h1 : i = b ∧ j = a
  · obtain ⟨rfl, rfl⟩ := h1
    rw [if_pos ⟨rfl, rfl⟩, if_pos (hj.2 (.inr ⟨rfl, rfl⟩))]; omega
  · rw [if_neg h1]
    by_cases h2 : i = a ∧ j = b
    · obtain ⟨rfl, rfl⟩ := h2
      rw [if_pos ⟨rfl, rfl⟩, if_pos (hj.2 (.inl ⟨rfl, rfl⟩))]; omega
    · rw [if_neg h2, if_neg (fun h => by have := hj.1 h; omega)]; simp

set_option maxHeartbeats 8000000 in
theorem l10Rows_b (N : Nat) (A : Option Addr) (c : Nat) (es : List (Int × Int)) (w : World) (hN : 1 ≤ N ∧ N ≤ 1000) (hl : es.length ≤ 1000) (hin : InN N es) (hne : ∀ j, j < es.length → (es.getD j (0, 0)).1 ≠ (es.getD j (0, 0)).2) (hr : RdE w A es) :
    Calls Try.prog 70 #[.agg #[.int .i64 N, .slice A es.length c]] w fun e w' => ∃ g c' R, e = .returned (.slice (some ⟨g, 0, none⟩) N c') ∧ Mat w' g 0 N N R (pairM es) ∧ Below w.heap.size w w' := by
  obtain ⟨iL, hiL, hzL0, hzL1, hzL2⟩ := info_parts infoL
  have hmk := mk_row Try.underlying43 infoI N (by omega) (by omega)
  simp only [made_int] at hmk
  have Hre : Hid (∀ W, Below w.heap.size w W → RdE W A es) := fun W hW => hr.below hW
  have Hin := Lib.hid hin
  have Hne := Lib.hid hne
  have HN := Lib.hid hN
  obtain ⟨L, HL⟩ : ∃ L, Hid (es.length = L) := ⟨_, rfl⟩
  rw [HL.out] at hl ⊢
  have Hl := Lib.hid hl
  have hN20 : N ≤ 1000 := hN.2
  clear hr hin hne hN hl
  go_enter Try.func70, Try.ntmps70
  go_wp2
  go_loopw [3, 4] (fun v s wr => ∃ (k : Nat) (R : Nat → Nat), k ≤ N ∧ s = .int .i64 k ∧ Hid (ZM wr (w.heap.size + 1) v k N R) ∧ Hid (Blk wr w.heap.size 24 #[.int .i64 N, .slice A L c]) ∧ (∃ g c', v = .slice (some ⟨g, 0, none⟩) k c') ∧ Hid (Below w.heap.size w wr) ∧ w.heap.size + 1 ≤ wr.heap.size) (fun _ s _ => N - (intOf s).toNat)
  case atStart =>
    refine ⟨0, fun _ => 0, Nat.zero_le _, rfl, ZM.empty _ (Blk.new' _ (by simp)) (Nat.le_refl _), (Blk.new w 24 _).alloc _, ⟨_, _, rfl⟩, by show Below _ _ _; (repeat' (first | (with_reducible exact Below.refl _ _) | (with_reducible assumption) | (with_reducible refine Below.alloc ?_ ?_ _) | (with_reducible refine Below.drew ?_) | (with_reducible refine below_drewN ?_ _) | (with_reducible refine Below.setCell ?_ ?_ _) | (with_reducible refine Below.trans ?_ (Below.mono (by assumption) ?_)) | (first | omega | (simp only [World.size_alloc, World.size_setCell, World.size_drew]; omega) | (simp; omega) | (simp; done)))), by (first | omega | (simp only [World.size_alloc, World.size_setCell, World.size_drew]; omega) | (simp; omega) | (simp; done))⟩
  case round =>
    obtain ⟨k, R, hk, rfl, HZ, HK, ⟨g, c', rfl⟩, Hbel, hsz⟩ := hrel
    have k00 := HK.out.cellAt 0 _ rfl
    have k01 := HK.out.cellAt 1 _ rfl
    by_cases hlt : k < N
    · have hrow := (HZ.out.keep (Below.alloc (Below.refl _ _) (Nat.le_refl _) (.cells (cI (List.replicate N 0)).toArray 2)))
      have hrow2 := (hrow.keep (Below.alloc (Below.refl _ _) (Nat.le_refl _) (.cells #[.slice (some ⟨wr.heap.size, 0, none⟩) N N] 43))).own
      clear hrow
      go_wp2_with (first
        | (at_builtin; refine wpList_append_own _ rfl _ _ 87 rfl (w.heap.size + 1) 43 iL (.slice none 0 0) 1 24 Try.underlying87 hiL hzL0 hzL1 hzL2 rfl (by decide) _ _ _ rfl hrow2 ⟨wr.heap.size + 1, 0, none⟩ 1 1 [.slice (some ⟨wr.heap.size, 0, none⟩) N N] rfl rfl ?c1 ?c2 ?c3 ?c4 ?c5 ?_))
      case c1 =>
        intro j u hj
        match j, hj with
        | 0, hj => simp at hj; subst hj; simp [Addr.add]
      case c2 => intro u hu; simp at hu; subst hu; rfl
      case c3 => unfold maxLen; omega
      case c4 => omega
      case c5 => simp; omega
      intro v' w3 hown' hgrow _
      have hz3 := HZ.out.step hsz (w2 := ((wr.alloc (.cells (cI (List.replicate N 0)).toArray 2)).alloc (.cells #[.slice (some ⟨wr.heap.size, 0, none⟩) N N] 43))) (Below.alloc (Below.refl _ _) (by simp) _) (by simp) hown' hgrow
      have hb3 : Below (w.heap.size + 1) wr w3 := (((Below.refl _ wr).alloc hsz _).alloc (by simp; omega) _).trans (own_grown_below (Below.refl _ _) hrow2 hgrow (by simp; omega))
      have Hb4 : Hid (Below w.heap.size w w3) := Hbel.out.trans (hb3.mono (by omega))
      have hs3 := hb3.size
      have HK3 := Lib.hid (HK.out.below hb3 (by omega))
      obtain ⟨A', c2, rfl⟩ := own_form hz3.own
      obtain ⟨g3, rfl⟩ : ∃ g3, A' = some ⟨g3, 0, none⟩ := by
        rcases hz3.own.2 with ⟨_, h⟩ | ⟨g3, cap, cur, hv, _⟩
        · omega
        · injection hv with hv _ _; exact ⟨g3, hv⟩
      have H3 := Lib.hid hz3
      clear hown' hgrow hz3 hrow2 hb3 HZ HK k00 k01 Hbel
      go_wp2
      exact ⟨⟨k + 1, _, by omega, by go_num, H3, HK3, ⟨_, _, rfl⟩, Hb4, by omega⟩, by simp [intOf]; omega⟩
    · obtain rfl : k = N := by omega
      have HM := Lib.hid ((HZ.out.mat HN.out.1).eq_ (M' := pairM (es.take 0)) (fun i j _ _ => rfl))
      have hRge := Lib.hid HZ.out.ge
      clear HZ hmk
      go_wp2_with fail
      have HRlt : Hid (∀ i, i < k → w.heap.size < R i) := fun i hi => by have := hRge.out i hi; omega
      clear hRge
      go_loopw [5] (fun s wo => ∃ e : Nat, e ≤ L ∧ s = .int .i64 e ∧ Hid (Mat wo g 0 k k R (pairM (es.take e))) ∧ Hid (Blk wo w.heap.size 24 #[.int .i64 k, .slice A L c]) ∧ Hid (Below w.heap.size w wo)) (fun s _ => L - (intOf s).toNat)
      case atStart => exact ⟨0, Nat.zero_le _, rfl, HM, HK, Hbel⟩
      case round =>
        clear HM HK hsz k00 k01 Hbel
        obtain ⟨e, he, rfl, HM, HK, Hbel⟩ := hrel
        have k01 := HK.out.cellAt 1 _ rfl
        have hKlt := HK.out.lt
        by_cases hlt2 : e < L
        · obtain ⟨b, off, rfl, hb, hc⟩ := (Hre.out wr Hbel.out).pos (by rw [HL.out]; omega)
          obtain ⟨hc0, hc1⟩ := hc e (by rw [HL.out]; exact hlt2)
          obtain ⟨x, y, Hxy, hx, hy⟩ := Hin.out e (by rw [HL.out]; exact hlt2)
          have hnxy : x ≠ y := by have := Hne.out e (by rw [HL.out]; exact hlt2); rw [Hxy] at this; dsimp only at this; omega
          rw [Hxy] at hc0 hc1
          dsimp only at hc0 hc1
          have hbw : b < w.heap.size := by
            obtain ⟨b9, o9, e9, hb9, _⟩ := (Hre.out w (Below.refl _ _)).pos (by rw [HL.out]; omega)
            injection e9 with e9
            injection e9 with e9 _ _
            omega
          have Hnx : Hid (es.take (e + 1) = es.take e ++ [((x : Int), (y : Int))]) := by show _ = _; rw [take_snocE es e (by rw [HL.out]; exact hlt2), Hxy]
          clear hc Hxy
          obtain ⟨ee, ee2, ee3⟩ := idxF e L hlt2
          obtain ⟨ex, ex2, ex3⟩ := idxF x k hx
          obtain ⟨ey, ey2, ey3⟩ := idxF y k hy
          have hne : R x ≠ R y := fun h => by have := HM.out.apart x y hx hy h; omega
          have hne2 : R y ≠ R x := Ne.symm hne
          have hRx := HRlt.out x hx
          have hRy := HRlt.out y hy
          have hh0 := HM.out.head x hx
          have hh1 := HM.out.head y hy
          have a0 := HM.out.cell x hx y hy
          have a1 := HM.out.free x hx y
          have b0 := HM.out.cell y hy x hx
          have b1 := HM.out.free y hy x
          rw [Nat.zero_add] at hh0 hh1
          obtain ⟨v1, Hv1⟩ : ∃ v, Hid (pairM (es.take e) x y = v) := ⟨_, rfl⟩
          obtain ⟨v2, Hv2⟩ : ∃ v, Hid (pairM (es.take e) y x = v) := ⟨_, rfl⟩
          rw [Hv1.out] at a0
          rw [Hv2.out] at b0
          have hvb : (0 ≤ v1 ∧ v1 ≤ 1000) ∧ (0 ≤ v2 ∧ v2 ≤ 1000) := by
            have h1 := pairN_le (es.take e) (x : Int) (y : Int)
            have h2 := pairN_le (es.take e) (y : Int) (x : Int)
            rw [List.length_take] at h1 h2
            have h3 := Hv1.out
            have h4 := Hv2.out
            unfold pairM at h3 h4
            have := Hl.out
            omega
          have p1 : wrap64 (v1 + 1) = v1 + 1 := wrap64_small (by omega) (by omega)
          have p2 : wrap64 (v2 + 1) = v2 + 1 := wrap64_small (by omega) (by omega)
          clear hvb
          go_wp2
          go_quiet (fail)
          rename_i nq
          have he9 : e ≤ 1000 := by have := Hl.out; omega
          go_wp2
          refine ⟨⟨e + 1, by omega, by go_num, ?_, ?_, ?_⟩, by simp [intOf]; omega⟩
          · refine (((HM.out.keep (below_drewN (Below.refl _ _) _)).set hx hy (v1 + 1)).set hy hx (v2 + 1)).eq_ (fun i j _ _ => ?_)
            rw [Hnx.out, ← pairM_step hnxy, Hv1.out, Hv2.out]
          · exact (((HK.out.drewN _).far (by show _ ≠ R x; omega) _).far (by show _ ≠ R y; omega) _)
          · exact ((below_drewN Hbel.out _).setCell (by show _ ≤ R x; omega) _).setCell (by show _ ≤ R y; omega) _
        · obtain rfl : e = L := by omega
          have hfull : es.take e = es := List.take_of_length_le (by rw [HL.out]; exact Nat.le_refl _)
          rw [hfull] at HM
          go_wp2
          go_ret
          exact ⟨_, _, _, rfl, HM.out, Hbel.out⟩
end Go.Proofs.Ytblidpodbpoaeaa
