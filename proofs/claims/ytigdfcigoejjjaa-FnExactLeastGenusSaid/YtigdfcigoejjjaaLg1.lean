/- The least genus: the program's answer. No statement of the program is proved here. -/
import Derived.Test.YtigdfcigoejjjaaMi2
import Derived.Test.YtigdfcigoejjjaaGe2
namespace Go.Proofs.Ytigdfcigoejjjaa
open Go.RowKit
set_option linter.unusedSimpArgs false
set_option linter.unusedVariables false
set_option maxRecDepth 20000

/-- What LeastGenus returns. -/
noncomputable def lgOf (n : Int) (es : List (Int × Int)) : Int × Int :=
  if isGraphB n es then (if connB n es then (if 10 < n then (0, 3) else (leastT n es (2 ^ n.toNat), 0)) else (0, 5)) else (0, 1)
theorem bit_val {s u : Nat} (hs : s < 2 ^ 64) : bits .and .u64 ((s : Int) / 2 ^ u) 1 = if s.testBit u then 1 else 0 := by
  have h1 : (s : Int) / 2 ^ u = ((s / 2 ^ u : Nat) : Int) := by rw [Int.natCast_ediv, Int.natCast_pow]; rfl
  have h2 := andU (a := s / 2 ^ u) (b := 1) (Nat.lt_of_le_of_lt (Nat.div_le_self _ _) hs) (by decide)
  rw [h1, show (1 : Int) = ((1 : Nat) : Int) from rfl, h2, Nat.testBit_eq_decide_div_mod_eq, Nat.and_one_is_mod]
  by_cases h : s / 2 ^ u % 2 = 1
  · rw [h]; simp
  · rw [show s / 2 ^ u % 2 = 0 by omega]; simp
/-- A rotation whose first v numbers are bits already. -/
def rotP (N s v : Nat) (old : List Int) : List Int := (List.range N).map fun u => if u < v then (if s.testBit u then (1 : Int) else 0) else old.getD u 0
theorem rotP_len (N s v : Nat) (old : List Int) : (rotP N s v old).length = N := by simp [rotP]
theorem rotP_zero {N s : Nat} {old : List Int} (h : old.length = N) : rotP N s 0 old = old := by
  refine List.ext_getElem (by simp [rotP, h]) fun i h1 h2 => ?_
  simp [rotP, List.getD, h2]
theorem rotP_all (N s : Nat) (old : List Int) : rotP N s N old = rotS N s := by
  unfold rotP rotS
  refine List.map_congr_left fun u hu => ?_
  rw [List.mem_range] at hu
  rw [if_pos hu]
theorem rotP_set {N s v : Nat} {old : List Int} (hv : v < N) : (rotP N s v old).set v (if s.testBit v then 1 else 0) = rotP N s (v + 1) old := by
  refine List.ext_getElem (by simp [rotP]) fun i h1 h2 => ?_
  rw [List.length_set, rotP_len] at h1
  rw [List.getElem_set]
  simp only [rotP, List.getElem_map, List.getElem_range]
  by_cases e : v = i
  · subst e; simp
  · rw [if_neg e]
    by_cases hi : i < v
    · have h9 : i < v + 1 := by omega
      simp only [hi, h9, if_true]
    · have h9 : ¬ i < v + 1 := by omega
      simp only [hi, h9, if_false]
theorem leastT_b {n : Int} {es : List (Int × Int)} (hn : 0 ≤ n ∧ n ≤ 20) (hl : es.length ≤ 60) : ∀ k, -200 ≤ leastT n es k ∧ leastT n es k ≤ 20
  | 0 => by simp only [leastT]; omega
  | k + 1 => by
    have ih := leastT_b hn hl k
    have hf := facesV_le es (rotS n.toNat k)
    have := tdiv_small (a := 2 - n + (es.length : Int) - ((facesV es (rotS n.toNat k)).length : Int)) (by omega)
    simp only [leastT, genV]
    omega
set_option maxHeartbeats 8000000 in
theorem implLg_b (n : Int) (A : Option Addr) (c : Nat) (es : List (Int × Int)) (w : World) (hl : es.length ≤ 1048576) (hr : RdE w A es) (r v : Int) (Hr : Hid ((lgOf n es).1 = r)) (Hv : Hid ((lgOf n es).2 = v)) :
    Calls Try.prog 24 #[.agg #[.int .i64 n, .slice A es.length c]] w fun e w' => e = .returned (.tuple #[.int .i64 r, .int .i64 v]) ∧ Below w.heap.size w w' := by
  obtain ⟨qg, hg⟩ : ∃ q, Hid (isGraphB n es = q) := ⟨_, rfl⟩
  obtain ⟨qc, hc⟩ : ∃ q, Hid (connB n es = q) := ⟨_, rfl⟩
  have hr1 := Hr.out
  have hv1 := Hv.out
  rw [lgOf, hg.out, hc.out] at hr1 hv1
  have cg := Lib.hid fun W (hW : Below w.heap.size w W) => connectedCode_b n A c es W qg qc hg hc hl (hr.below hW)
  by_cases hall : qg = true ∧ qc = true
  · obtain ⟨rfl, rfl⟩ := hall
    have hcc : connCode true true = 0 := rfl
    rw [hcc] at cg
    simp only [if_true] at hr1 hv1
    by_cases h10 : 10 < n
    · rw [if_pos h10] at hr1 hv1
      simp only at hr1 hv1
      subst hr1; subst hv1
      clear hr hg hc Hr Hv
      generalize es.length = L at *
      go_enter Try.func24, Try.ntmps24
      go_wp2_with fail
      refine (cg.out _ (by (repeat' (first | (with_reducible exact Below.refl _ _) | (with_reducible assumption) | (with_reducible refine Below.alloc ?_ ?_ _) | (with_reducible refine Below.drew ?_) | (with_reducible refine below_drewN ?_ _) | (with_reducible refine Below.setCell ?_ ?_ _) | (with_reducible refine Below.trans ?_ (Below.mono (by assumption) ?_)) | (first | omega | (simp only [World.size_alloc, World.size_setCell, World.size_drew]; omega) | (simp; omega) | (simp; done)))))).mono ?_
      rintro e w1 ⟨rfl, hb1⟩
      simp only [World.size_alloc, World.size_setCell, World.size_drew] at hb1; have B1 : Below w.heap.size w w1 := by (repeat' (first | (with_reducible exact Below.refl _ _) | (with_reducible assumption) | (with_reducible refine Below.alloc ?_ ?_ _) | (with_reducible refine Below.drew ?_) | (with_reducible refine below_drewN ?_ _) | (with_reducible refine Below.setCell ?_ ?_ _) | (with_reducible refine Below.trans ?_ (Below.mono (by assumption) ?_)) | (first | omega | (simp only [World.size_alloc, World.size_setCell, World.size_drew]; omega) | (simp; omega) | (simp; done))))
      have K1 : Blk w1 w.heap.size 32 #[.int .i64 n, .slice A L c] := (Blk.new' _ rfl).below hb1 (by omega)
      have d10 := K1.cellAt 0 _ rfl; have d11 := K1.cellAt 1 _ rfl; have z1 := hb1.size; simp only [World.size_alloc, World.size_setCell, World.size_drew] at z1
      go_wp2
      go_ret2
      exact ⟨rfl, B1⟩
    · rw [if_neg h10] at hr1 hv1
      simp only at hr1 hv1
      have hlen := isGraphB_len hg.out
      have hn := isGraphB_n hg.out
      have cf := Lib.hid fun (B : Option Addr) (cb : Nat) (s : Nat) W (hW : Below w.heap.size w W) (hx : RdI W B (rotS n.toNat s)) => genus_b n A c es B cb (rotS n.toNat s) W hg.out (rotS_is s) (by omega) (hr.below hW) hx
      simp only [rotS_len] at cf
      have HT := Lib.hid (leastT_b (n := n) (es := es) (by omega) (by omega))
      have HTs : Hid (∀ k, leastT n es (k + 1) = min (leastT n es k) (genV n es (rotS n.toNat k))) := fun k => rfl
      have HT0 : Hid (leastT n es 0 = n) := rfl
      obtain ⟨G, HG⟩ : ∃ G : Nat → Int, Hid ((fun k => genV n es (rotS n.toNat k)) = G) := ⟨_, rfl⟩
      have HGb : Hid (∀ k, -200 ≤ G k ∧ G k ≤ 200) := fun k => by
        rw [← HG.out]
        have hf := facesV_le es (rotS n.toNat k)
        exact tdiv_small (a := 2 - n + (es.length : Int) - ((facesV es (rotS n.toNat k)).length : Int)) (by omega)
      have HGk : Hid (∀ k, genV n es (rotS n.toNat k) = G k) := fun k => by rw [← HG.out]
      simp only [HGk.out] at cf HTs
      obtain ⟨T, HTT⟩ : ∃ T : Nat → Int, Hid (leastT n es = T) := ⟨_, rfl⟩
      rw [HTT.out] at hr1 HT HTs HT0
      subst hr1; subst hv1
      obtain ⟨N, rfl⟩ : ∃ N : Nat, n = N := ⟨n.toNat, by omega⟩
      simp only [Int.toNat_natCast] at cf HTs ⊢
      clear hr hg hc Hr Hv HGk HG HTT hlen
      generalize es.length = L at *
      have hN10 : N ≤ 10 := by omega
      have hmk := mk_row Try.underlying25 infoI N (by omega) (by omega)
      simp only [made_int] at hmk
      have e1 := wrapU_pow (show N < 64 by omega)
      have hP : 2 ^ N ≤ 1024 := by
        have := Nat.pow_le_pow_right (n := 2) (by decide) hN10
        simpa using this
      obtain ⟨P, HP⟩ : ∃ P : Nat, Hid ((2 : Nat) ^ N = P) := ⟨_, rfl⟩
      rw [HP.out] at e1 hP ⊢
      go_enter Try.func24, Try.ntmps24
      go_wp2_with fail
      refine (cg.out _ (by (repeat' (first | (with_reducible exact Below.refl _ _) | (with_reducible assumption) | (with_reducible refine Below.alloc ?_ ?_ _) | (with_reducible refine Below.drew ?_) | (with_reducible refine below_drewN ?_ _) | (with_reducible refine Below.setCell ?_ ?_ _) | (with_reducible refine Below.trans ?_ (Below.mono (by assumption) ?_)) | (first | omega | (simp only [World.size_alloc, World.size_setCell, World.size_drew]; omega) | (simp; omega) | (simp; done)))))).mono ?_
      rintro e w1 ⟨rfl, hb1⟩
      simp only [World.size_alloc, World.size_setCell, World.size_drew] at hb1; have B1 : Below w.heap.size w w1 := by (repeat' (first | (with_reducible exact Below.refl _ _) | (with_reducible assumption) | (with_reducible refine Below.alloc ?_ ?_ _) | (with_reducible refine Below.drew ?_) | (with_reducible refine below_drewN ?_ _) | (with_reducible refine Below.setCell ?_ ?_ _) | (with_reducible refine Below.trans ?_ (Below.mono (by assumption) ?_)) | (first | omega | (simp only [World.size_alloc, World.size_setCell, World.size_drew]; omega) | (simp; omega) | (simp; done))))
      have K1 : Blk w1 w.heap.size 32 #[.int .i64 (N : Int), .slice A L c] := (Blk.new' _ rfl).below hb1 (by omega)
      have d10 := K1.cellAt 0 _ rfl; have d11 := K1.cellAt 1 _ rfl; have z1 := hb1.size; simp only [World.size_alloc, World.size_setCell, World.size_drew] at z1
      have K2 : Hid (Blk (w1.alloc (.cells (cI (List.replicate N 0)).toArray 2)) w.heap.size 32 #[.int .i64 (N : Int), .slice A L c]) := K1.alloc _
      have R2 : Hid (Blk (w1.alloc (.cells (cI (List.replicate N 0)).toArray 2)) w1.heap.size 2 (cI (List.replicate N 0)).toArray) := Blk.new _ _ _
      have HB2 : Hid (Below w.heap.size w (w1.alloc (.cells (cI (List.replicate N 0)).toArray 2))) := by
        show Below _ _ _; exact B1.alloc B1.size _
      have hwl := K1.lt
      have hd10 : decide ((10 : Int) < (N : Int)) = false := by simp; omega
      go_wp2
      try simp only [hd10]
      go_loopw [5, 25] (fun lv sv wr => ∃ (s : Nat) (old : List Int), s ≤ P ∧ sv = .int .u64 s ∧ lv = .int .i64 (T s) ∧ Hid (old.length = N) ∧ Hid (Blk wr w1.heap.size 2 (cI old).toArray) ∧ Hid (Blk wr w.heap.size 32 #[.int .i64 (N : Int), .slice A L c]) ∧ Hid (Below w.heap.size w wr)) (fun _ sv _ => P - (intOf sv).toNat)
      case atStart => exact ⟨0, List.replicate N 0, Nat.zero_le _, rfl, by rw [HT0.out], by show _ = _; simp, R2, K2, HB2⟩
      case round =>
        clear K2 R2 HB2
        obtain ⟨s, old, hs, rfl, rfl, Hol, HR, HK, HBel⟩ := hrel
        by_cases hlt : s < P
        · obtain ⟨es1, es2, es3⟩ := idxF s P hlt
          have hTb := HT.out s
          have hGb := HGb.out s
          have hs64 : s < 2 ^ 64 := Nat.lt_of_lt_of_le hlt (Nat.le_trans hP (by decide))
          have Hbit := Lib.hid fun u => bit_val (s := s) (u := u) hs64
          have hrl := HR.out.lt
          have HTn := Lib.hid (HTs.out s)
          clear hs64
          obtain ⟨t0, Ht0⟩ : ∃ t0, Hid (T s = t0) := ⟨_, rfl⟩
          obtain ⟨g0, Hg0⟩ : ∃ g0, Hid (G s = g0) := ⟨_, rfl⟩
          rw [Ht0.out] at hTb HTn
          rw [Hg0.out] at hGb HTn
          rw [Ht0.out]
          have H0 : Hid (Blk wr w1.heap.size 2 (cI (rotP N s 0 old)).toArray) := by show Blk _ _ _ _; rw [rotP_zero Hol.out]; exact HR.out
          go_wp2
          go_loopw [30] (fun iv wx => ∃ v : Nat, v ≤ N ∧ iv = .int .i64 v ∧ Hid (Blk wx w1.heap.size 2 (cI (rotP N s v old)).toArray) ∧ Hid (Blk wx w.heap.size 32 #[.int .i64 (N : Int), .slice A L c]) ∧ Hid (Below w.heap.size w wx)) (fun iv _ => N - (intOf iv).toNat)
          case atStart => exact ⟨0, Nat.zero_le _, rfl, H0, HK, HBel⟩
          case round =>
            clear H0 HK HBel HR
            obtain ⟨v, hv, rfl, HR, HK, HBel⟩ := hrel
            have hwl2 := HK.out.lt
            have hrl2 := HR.out.lt
            by_cases hlt2 : v < N
            · obtain ⟨ev, ev2, ev3⟩ := idxF v N hlt2
              have hb := Hbit.out v
              have hset := blk_set HR.out v (if s.testBit v then 1 else 0)
              rw [rotP_set hlt2] at hset
              obtain ⟨b, Hb⟩ : ∃ b : Int, Hid ((if s.testBit v then (1 : Int) else 0) = b) := ⟨_, rfl⟩
              rw [Hb.out] at hb hset
              have hb01 : 0 ≤ b ∧ b ≤ 1 := by rw [← Hb.out]; split <;> omega
              have Hset := Lib.hid hset
              have HK2 := Lib.hid (HK.out.far (p := ⟨w1.heap.size, v, none⟩) (by show w.heap.size ≠ w1.heap.size; omega) (.int .i64 b))
              have HB2 := Lib.hid (HBel.out.setCell (p := ⟨w1.heap.size, v, none⟩) (by show w.heap.size ≤ w1.heap.size; omega) (.int .i64 b))
              have fz := HR.out.frozen v
              have cz := blk_cell HR.out (j := v) (by rw [rotP_len]; exact hlt2)
              clear hset
              go_wp2
              exact ⟨⟨v + 1, by omega, by go_num, Hset, HK2, HB2⟩, by simp [intOf]; omega⟩
            · obtain rfl : N = v := by omega
              rw [rotP_all] at HR
              have k0 := HK.out.cellAt 0 _ rfl
              have k1 := HK.out.cellAt 1 _ rfl
              have cf2 := cf.out (some ⟨w1.heap.size, 0, none⟩) N s _ HBel.out (blkI_rd HR.out)
              rw [Hg0.out] at cf2
              go_wp2_with fail
              refine cf2.mono ?_
              rintro e w3 ⟨rfl, hb3⟩
              have HR3 := Lib.hid (HR.out.below hb3 hrl2)
              have HK3 := Lib.hid (HK.out.below hb3 hwl2)
              have HB3 := Lib.hid (HBel.out.trans (hb3.mono HBel.out.size))
              clear hb3 k0 k1 cf2
              go_wp2
              exact ⟨⟨s + 1, rotS N s, by omega, by go_num, by { rw [HTn.out]; congr 1; split <;> omega }, rotS_len _ _, HR3, HK3, HB3⟩, by simp [intOf]; omega⟩
        · obtain rfl : P = s := by omega
          go_wp2
          go_ret2
          exact ⟨rfl, HBel.out⟩
  · have g0 : r = 0 ∧ v = connCode qg qc := by
      cases qg <;> cases qc <;> simp_all [connCode]
      all_goals (subst hr1; subst hv1; exact ⟨rfl, rfl⟩)
    obtain ⟨rfl, rfl⟩ := g0
    obtain ⟨v, Hv9⟩ : ∃ v, Hid (connCode qg qc = v) := ⟨_, rfl⟩
    have g1 : (v != 0) = true := by
      have := Hv9.out
      cases qg <;> cases qc <;> simp_all [connCode]
      all_goals (subst this; decide)
    have g2 : (v == 0) = false := by simpa using g1
    rw [Hv9.out] at cg ⊢
    clear hr hg hc Hr Hv hall hr1 hv1
    generalize es.length = L at *
    go_enter Try.func24, Try.ntmps24
    go_wp2_with fail
    refine (cg.out _ (by (repeat' (first | (with_reducible exact Below.refl _ _) | (with_reducible assumption) | (with_reducible refine Below.alloc ?_ ?_ _) | (with_reducible refine Below.drew ?_) | (with_reducible refine below_drewN ?_ _) | (with_reducible refine Below.setCell ?_ ?_ _) | (with_reducible refine Below.trans ?_ (Below.mono (by assumption) ?_)) | (first | omega | (simp only [World.size_alloc, World.size_setCell, World.size_drew]; omega) | (simp; omega) | (simp; done)))))).mono ?_
    rintro e w1 ⟨rfl, hb1⟩
    go_wp2
    go_ret2
    exact ⟨rfl, by (repeat' (first | (with_reducible exact Below.refl _ _) | (with_reducible assumption) | (with_reducible refine Below.alloc ?_ ?_ _) | (with_reducible refine Below.drew ?_) | (with_reducible refine below_drewN ?_ _) | (with_reducible refine Below.setCell ?_ ?_ _) | (with_reducible refine Below.trans ?_ (Below.mono (by assumption) ?_)) | (first | omega | (simp only [World.size_alloc, World.size_setCell, World.size_drew]; omega) | (simp; omega) | (simp; done))))⟩
end Go.Proofs.Ytigdfcigoejjjaa
