/- The least genus: the reference's answer. No statement of the program is proved here. -/
import Derived.Test.YtigdfcigoejjjaaLg1
namespace Go.Proofs.Ytigdfcigoejjjaa
open Go.RowKit
set_option linter.unusedSimpArgs false
set_option linter.unusedVariables false
set_option maxRecDepth 20000

theorem bit_valI {s u : Nat} (hs : s < 2 ^ 62) : bits .and .i64 ((s : Int) / 2 ^ u) 1 = if s.testBit u then 1 else 0 := by
  have h1 : (s : Int) / 2 ^ u = ((s / 2 ^ u : Nat) : Int) := by rw [Int.natCast_ediv, Int.natCast_pow]; rfl
  have hx : s / 2 ^ u < 2 ^ 62 := Nat.lt_of_le_of_lt (Nat.div_le_self _ _) hs
  rw [h1]
  generalize hq : s / 2 ^ u = x at *
  have h2 := bits_mask .i64 63 (by decide) (fun n h0 h1 => by rw [IntKind.wrap_i64]; omega) 1 (by decide) (x : Int) (by omega) (by omega)
  have e : ((2 : Int) ^ 1 - 1) = 1 := by decide
  rw [e] at h2
  rw [h2, Nat.testBit_eq_decide_div_mod_eq, hq]
  by_cases h : x % 2 = 1
  · simp [h]; omega
  · rw [if_neg (by simpa using h)]; omega
theorem rotS_snoc (v s : Nat) : rotS (v + 1) s = rotS v s ++ [if s.testBit v then (1 : Int) else 0] := by simp [rotS, List.range_succ]
set_option maxHeartbeats 8000000 in
theorem specLg_b (n : Int) (A : Option Addr) (c : Nat) (es : List (Int × Int)) (w : World) (hl : es.length ≤ 1048576) (hr : RdE w A es) (r v : Int) (Hr : Hid ((lgOf n es).1 = r)) (Hv : Hid ((lgOf n es).2 = v)) :
    Calls Try.prog 23 #[.agg #[.int .i64 n, .slice A es.length c]] w fun e w' => e = .returned (.tuple #[.int .i64 r, .int .i64 v]) ∧ Below w.heap.size w w' := by
  obtain ⟨qg, hg⟩ : ∃ q, Hid (isGraphB n es = q) := ⟨_, rfl⟩
  obtain ⟨qc, hc⟩ : ∃ q, Hid (connB n es = q) := ⟨_, rfl⟩
  have hr1 := Hr.out
  have hv1 := Hv.out
  rw [lgOf, hg.out, hc.out] at hr1 hv1
  have cg := Lib.hid fun W (hW : Below w.heap.size w W) => l01Is_b n A c es W qg hg hl (hr.below hW)
  cases qg
  · simp only [Bool.false_eq_true, if_false] at hr1 hv1
    subst hr1; subst hv1
    clear hr hg hc Hr Hv
    generalize es.length = L at *
    go_enter Try.func23, Try.ntmps23
    go_wp2_with fail
    refine (cg.out _ (by (repeat' (first | (with_reducible exact Below.refl _ _) | (with_reducible assumption) | (with_reducible refine Below.alloc ?_ ?_ _) | (with_reducible refine Below.drew ?_) | (with_reducible refine below_drewN ?_ _) | (with_reducible refine Below.setCell ?_ ?_ _) | (with_reducible refine Below.trans ?_ (Below.mono (by assumption) ?_)) | (first | omega | (simp only [World.size_alloc, World.size_setCell, World.size_drew]; omega) | (simp; omega) | (simp; done)))))).mono ?_
    rintro e w1 ⟨rfl, hb1⟩
    go_wp2
    go_ret2
    exact ⟨rfl, by (repeat' (first | (with_reducible exact Below.refl _ _) | (with_reducible assumption) | (with_reducible refine Below.alloc ?_ ?_ _) | (with_reducible refine Below.drew ?_) | (with_reducible refine below_drewN ?_ _) | (with_reducible refine Below.setCell ?_ ?_ _) | (with_reducible refine Below.trans ?_ (Below.mono (by assumption) ?_)) | (first | omega | (simp only [World.size_alloc, World.size_setCell, World.size_drew]; omega) | (simp; omega) | (simp; done))))⟩
  have cc := Lib.hid fun W (hW : Below w.heap.size w W) => conn_spec n A c es W qc hg.out hc (hr.below hW)
  simp only [if_true] at hr1 hv1
  cases qc
  · simp only [Bool.false_eq_true, if_false] at hr1 hv1
    subst hr1; subst hv1
    clear hr hg hc Hr Hv
    generalize es.length = L at *
    go_enter Try.func23, Try.ntmps23
    go_wp2_with fail
    refine (cg.out _ (by (repeat' (first | (with_reducible exact Below.refl _ _) | (with_reducible assumption) | (with_reducible refine Below.alloc ?_ ?_ _) | (with_reducible refine Below.drew ?_) | (with_reducible refine below_drewN ?_ _) | (with_reducible refine Below.setCell ?_ ?_ _) | (with_reducible refine Below.trans ?_ (Below.mono (by assumption) ?_)) | (first | omega | (simp only [World.size_alloc, World.size_setCell, World.size_drew]; omega) | (simp; omega) | (simp; done)))))).mono ?_
    rintro e w1 ⟨rfl, hb1⟩
    simp only [World.size_alloc, World.size_setCell, World.size_drew] at hb1; have B1 : Below w.heap.size w w1 := by (repeat' (first | (with_reducible exact Below.refl _ _) | (with_reducible assumption) | (with_reducible refine Below.alloc ?_ ?_ _) | (with_reducible refine Below.drew ?_) | (with_reducible refine below_drewN ?_ _) | (with_reducible refine Below.setCell ?_ ?_ _) | (with_reducible refine Below.trans ?_ (Below.mono (by assumption) ?_)) | (first | omega | (simp only [World.size_alloc, World.size_setCell, World.size_drew]; omega) | (simp; omega) | (simp; done))))
    have K1 : Blk w1 w.heap.size 32 #[.int .i64 n, .slice A L c] := (Blk.new' _ rfl).below hb1 (by omega)
    have d10 := K1.cellAt 0 _ rfl; have d11 := K1.cellAt 1 _ rfl; have z1 := hb1.size; simp only [World.size_alloc, World.size_setCell, World.size_drew] at z1
    go_wp2_with fail
    refine (cc.out _ B1).mono ?_
    rintro e w2 ⟨rfl, hb2⟩
    go_wp2
    go_ret2
    exact ⟨rfl, B1.trans (hb2.mono B1.size)⟩
  simp only [if_true] at hr1 hv1
  by_cases h10 : 10 < n
  · rw [if_pos h10] at hr1 hv1
    simp only at hr1 hv1
    subst hr1; subst hv1
    clear hr hg hc Hr Hv
    generalize es.length = L at *
    go_enter Try.func23, Try.ntmps23
    go_wp2_with fail
    refine (cg.out _ (by (repeat' (first | (with_reducible exact Below.refl _ _) | (with_reducible assumption) | (with_reducible refine Below.alloc ?_ ?_ _) | (with_reducible refine Below.drew ?_) | (with_reducible refine below_drewN ?_ _) | (with_reducible refine Below.setCell ?_ ?_ _) | (with_reducible refine Below.trans ?_ (Below.mono (by assumption) ?_)) | (first | omega | (simp only [World.size_alloc, World.size_setCell, World.size_drew]; omega) | (simp; omega) | (simp; done)))))).mono ?_
    rintro e w1 ⟨rfl, hb1⟩
    simp only [World.size_alloc, World.size_setCell, World.size_drew] at hb1; have B1 : Below w.heap.size w w1 := by (repeat' (first | (with_reducible exact Below.refl _ _) | (with_reducible assumption) | (with_reducible refine Below.alloc ?_ ?_ _) | (with_reducible refine Below.drew ?_) | (with_reducible refine below_drewN ?_ _) | (with_reducible refine Below.setCell ?_ ?_ _) | (with_reducible refine Below.trans ?_ (Below.mono (by assumption) ?_)) | (first | omega | (simp only [World.size_alloc, World.size_setCell, World.size_drew]; omega) | (simp; omega) | (simp; done))))
    have K1 : Blk w1 w.heap.size 32 #[.int .i64 n, .slice A L c] := (Blk.new' _ rfl).below hb1 (by omega)
    have d10 := K1.cellAt 0 _ rfl; have d11 := K1.cellAt 1 _ rfl; have z1 := hb1.size; simp only [World.size_alloc, World.size_setCell, World.size_drew] at z1
    go_wp2_with fail
    refine (cc.out _ B1).mono ?_
    rintro e w2 ⟨rfl, hb2⟩
    have B2 := B1.trans (hb2.mono B1.size)
    have K2 := K1.below hb2 K1.lt
    have k20 := K2.cellAt 0 _ rfl
    have k21 := K2.cellAt 1 _ rfl
    go_wp2
    go_ret2
    exact ⟨rfl, B2⟩
  rw [if_neg h10] at hr1 hv1
  simp only at hr1 hv1
  have hlen := isGraphB_len hg.out
  have hn := isGraphB_n hg.out
  have cf := Lib.hid fun (B : Option Addr) (cb : Nat) (s : Nat) W (hW : Below w.heap.size w W) (hx : RdI W B (rotS n.toNat s)) => l07Genus_b n A c es B cb (rotS n.toNat s) W hg.out (rotS_is s) (by omega) (hr.below hW) hx
  simp only [rotS_len] at cf
  have HT := Lib.hid (leastT_b (n := n) (es := es) (by omega) (by omega))
  have HTs : Hid (∀ k, leastT n es (k + 1) = min (leastT n es k) (genV n es (rotS n.toNat k))) := fun k => rfl
  have HT0 : Hid (leastT n es 0 = n) := rfl
  rw [leastT_half hg.out] at hr1
  obtain ⟨G, HG⟩ : ∃ G : Nat → Int, Hid ((fun k => genV n es (rotS n.toNat k)) = G) := ⟨_, rfl⟩
  have HGb : Hid (∀ k, -200 ≤ G k ∧ G k ≤ 200) := fun k => by
    rw [← HG.out]
    have hf := facesV_le es (rotS n.toNat k)
    exact tdiv_small (a := 2 - n + (es.length : Int) - ((facesV es (rotS n.toNat k)).length : Int)) (by omega)
  have HGk : Hid (∀ k, genV n es (rotS n.toNat k) = G k) := fun k => by rw [← HG.out]
  simp only [HGk.out] at cf HTs
  obtain ⟨T, HTT⟩ : ∃ T : Nat → Int, Hid (leastT n es = T) := ⟨_, rfl⟩
  rw [HTT.out] at hr1 HT HTs HT0
  subst hr1; subst hv1
  obtain ⟨N, rfl⟩ : ∃ N : Nat, n = (N : Int) := ⟨n.toNat, by omega⟩
  simp only [Int.toNat_natCast] at cf HTs ⊢
  clear hr hg hc Hr Hv HGk HG HTT hlen
  generalize es.length = L at *
  have hN10 : N ≤ 10 := by omega
  have hP : 2 ^ (N - 1) ≤ 512 := by
    have := Nat.pow_le_pow_right (n := 2) (by decide) (show N - 1 ≤ 9 by omega)
    simpa using this
  obtain ⟨P, HP⟩ : ∃ P : Nat, Hid ((2 : Nat) ^ (N - 1) = P) := ⟨_, rfl⟩
  rw [HP.out] at hP ⊢
  have hpw : ((2 : Int) ^ (N - 1)) = (P : Int) := by rw [← HP.out]; simp
  have wP : wrap64 ((2 : Int) ^ (N - 1)) = (P : Int) := by rw [hpw, wrap64_small (by omega) (by omega)]
  clear hpw
  go_enter Try.func23, Try.ntmps23
  go_wp2_with fail
  refine (cg.out _ (by (repeat' (first | (with_reducible exact Below.refl _ _) | (with_reducible assumption) | (with_reducible refine Below.alloc ?_ ?_ _) | (with_reducible refine Below.drew ?_) | (with_reducible refine below_drewN ?_ _) | (with_reducible refine Below.setCell ?_ ?_ _) | (with_reducible refine Below.trans ?_ (Below.mono (by assumption) ?_)) | (first | omega | (simp only [World.size_alloc, World.size_setCell, World.size_drew]; omega) | (simp; omega) | (simp; done)))))).mono ?_
  rintro e w1 ⟨rfl, hb1⟩
  simp only [World.size_alloc, World.size_setCell, World.size_drew] at hb1; have B1 : Below w.heap.size w w1 := by (repeat' (first | (with_reducible exact Below.refl _ _) | (with_reducible assumption) | (with_reducible refine Below.alloc ?_ ?_ _) | (with_reducible refine Below.drew ?_) | (with_reducible refine below_drewN ?_ _) | (with_reducible refine Below.setCell ?_ ?_ _) | (with_reducible refine Below.trans ?_ (Below.mono (by assumption) ?_)) | (first | omega | (simp only [World.size_alloc, World.size_setCell, World.size_drew]; omega) | (simp; omega) | (simp; done))))
  have K1 : Blk w1 w.heap.size 32 #[.int .i64 (N : Int), .slice A L c] := (Blk.new' _ rfl).below hb1 (by omega)
  have d10 := K1.cellAt 0 _ rfl; have d11 := K1.cellAt 1 _ rfl; have z1 := hb1.size; simp only [World.size_alloc, World.size_setCell, World.size_drew] at z1
  go_wp2_with fail
  refine (cc.out _ B1).mono ?_
  rintro e w2 ⟨rfl, hb2⟩
  have B2 := Lib.hid (B1.trans (hb2.mono B1.size))
  have K2 := Lib.hid (K1.below hb2 K1.lt)
  have k20 := K2.out.cellAt 0 _ rfl
  have k21 := K2.out.cellAt 1 _ rfl
  have hwl := K2.out.lt
  clear B1 K1 hb1 hb2
  have hd10 : decide ((10 : Int) < (N : Int)) = false := by simp; omega
  go_wp2
  try simp only [hd10]
  clear k20 k21
  go_loopw [4, 5] (fun lv sv wr => ∃ (s : Nat), s ≤ P ∧ sv = .int .i64 s ∧ lv = .int .i64 (T s) ∧ Hid (Blk wr w.heap.size 32 #[.int .i64 (N : Int), .slice A L c]) ∧ Hid (Below w.heap.size w wr)) (fun _ sv _ => P - (intOf sv).toNat)
  case atStart => exact ⟨0, Nat.zero_le _, rfl, by rw [HT0.out], K2, B2⟩
  case round =>
    clear K2 B2
    obtain ⟨s, hs, rfl, rfl, HK, HBel⟩ := hrel
    have k0 := HK.out.cellAt 0 _ rfl
    have k1 := HK.out.cellAt 1 _ rfl
    have hwl2 := HK.out.lt
    have hbs := HBel.out.size
    by_cases hlt : s < P
    · obtain ⟨es1, es2, es3⟩ := idxF s P hlt
      have hTb := HT.out s
      have hGb := HGb.out s
      have hs62 : s < 2 ^ 62 := Nat.lt_of_lt_of_le hlt (Nat.le_trans hP (by decide))
      have Hbit := Lib.hid fun u => bit_valI (s := s) (u := u) hs62
      have HTn := Lib.hid (HTs.out s)
      clear hs62
      obtain ⟨t0, Ht0⟩ : ∃ t0, Hid (T s = t0) := ⟨_, rfl⟩
      obtain ⟨g0, Hg0⟩ : ∃ g0, Hid (G s = g0) := ⟨_, rfl⟩
      rw [Ht0.out] at hTb HTn
      rw [Hg0.out] at hGb HTn
      rw [Ht0.out]
      go_wp2
      try simp only [wP]
      have H0 : Hid ((wr.alloc (.cells #[] 2)).ownsRow (w.heap.size + 1) 2 1 (.slice (some ⟨wr.heap.size, 0, none⟩) 0 0) 0 (cI (rotS 0 s))) := own_mono (own_blk (xs := []) (Blk.new wr 2 #[]) (by simp) (by decide)) (by omega)
      have HK0 : Hid (Blk (wr.alloc (.cells #[] 2)) w.heap.size 32 #[.int .i64 (N : Int), .slice A L c]) := HK.out.alloc _
      have HB0 : Hid (Below w.heap.size w (wr.alloc (.cells #[] 2))) := by show Below _ _ _; exact HBel.out.alloc hbs _
      go_loopw [6, 7] (fun fv iv wx => ∃ v : Nat, v ≤ N ∧ iv = .int .i64 v ∧ Hid (wx.ownsRow (w.heap.size + 1) 2 1 fv v (cI (rotS v s))) ∧ Hid (Blk wx w.heap.size 32 #[.int .i64 (N : Int), .slice A L c]) ∧ Hid (Below w.heap.size w wx)) (fun _ iv _ => N - (intOf iv).toNat)
      case atStart => exact ⟨0, Nat.zero_le _, rfl, H0, HK0, HB0⟩
      case round =>
        clear H0 HK0 HB0 HK HBel k0 k1
        obtain ⟨v, hv, rfl, Hown, HK, HBel⟩ := hrel
        obtain ⟨A', c', rfl⟩ := own_form Hown.out
        have k0 := HK.out.cellAt 0 _ rfl
        have k1 := HK.out.cellAt 1 _ rfl
        have hwl3 := HK.out.lt
        by_cases hlt2 : v < N
        · obtain ⟨ev, ev2, ev3⟩ := idxF v N hlt2
          have hb := Hbit.out v
          obtain ⟨b, Hb⟩ : ∃ b : Int, Hid ((if s.testBit v then (1 : Int) else 0) = b) := ⟨_, rfl⟩
          rw [Hb.out] at hb
          have Hsn : Hid (rotS (v + 1) s = rotS v s ++ [b]) := by show _ = _; rw [rotS_snoc, Hb.out]
          have hab : Below wr.heap.size wr (wr.alloc (.cells #[.int .i64 b] 2)) := (Below.refl _ _).alloc (Nat.le_refl _) _
          have Hown2 := Lib.hid (own_below Hown.out hab)
          have HK2 := Lib.hid (HK.out.alloc (.cells #[.int .i64 b] 2))
          have HB2 : Hid (Below w.heap.size w (wr.alloc (.cells #[.int .i64 b] 2))) := HBel.out.trans (hab.mono HBel.out.size)
          have Hcv : Hid ((wr.alloc (.cells #[.int .i64 b] 2)).cell? ⟨wr.heap.size, 0, none⟩ = some (.int .i64 b)) := (Blk.new wr 2 #[.int .i64 b]).cellAt 0 _ rfl
          clear hab
          go_wp2_with (first
            | (at_builtin; refine wpList_append1 rfl rfl (w.heap.size + 1) _ v (rotS v s) rfl Hown2.out ⟨wr.heap.size, 0, none⟩ 1 b rfl Hcv.out (by omega) (by simp; omega) ?_))
          intro g9 c9 w3 hown3 hfr
          have HK3 := Lib.hid (HK2.out.below (hfr (w.heap.size + 1) _ (Nat.le_refl _) (Below.refl _ _)) (by omega))
          have HB3 := Lib.hid (hfr w.heap.size w (by omega) HB2.out)
          have Hown3 : Hid (w3.ownsRow (w.heap.size + 1) 2 1 (.slice (some ⟨g9, 0, none⟩) (v + 1) c9) (v + 1) (cI (rotS (v + 1) s))) := by
            show World.ownsRow _ _ _ _ _ _ _
            rw [Hsn.out]; exact hown3
          clear hown3 hfr k0 k1
          go_wp2
          exact ⟨⟨v + 1, by omega, by go_num, Hown3, HK3, HB3⟩, by simp [intOf]; omega⟩
        · obtain rfl : N = v := by omega
          have cf2 := cf.out A' c' s wr HBel.out (own_rdI Hown.out)
          rw [Hg0.out] at cf2
          go_wp2_with fail
          refine cf2.mono ?_
          rintro e w3 ⟨rfl, hb3⟩
          have HK3 := Lib.hid (HK.out.below hb3 hwl3)
          have HB3 := Lib.hid (HBel.out.trans (hb3.mono HBel.out.size))
          clear hb3 k0 k1 cf2
          go_wp2
          exact ⟨⟨s + 1, by omega, by go_num, by { rw [HTn.out]; congr 1; split <;> omega }, HK3, HB3⟩, by simp [intOf]; omega⟩
    · obtain rfl : P = s := by omega
      go_wp2
      go_ret2
      exact ⟨rfl, HBel.out⟩
end Go.Proofs.Ytigdfcigoejjjaa
