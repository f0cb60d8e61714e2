/- The program's faces of a rotation. No statement of the program is proved here. -/
import Derived.Test.YtigdfcigoejjjaaFa4
import Derived.Carry
namespace Go.Proofs.Ytigdfcigoejjjaa
open Go.RowKit
set_option linter.unusedSimpArgs false
set_option linter.unusedVariables false
set_option maxRecDepth 20000

theorem blk_grownLL {w w' : World} {g t base top : Nat} {cs : Array Value} {v : Value} {xss : List (List Int)} (h : Blk w g t cs) (ht : t ≠ 25) (ho : OwnLD w base top v xss) (hg : w.grownBy w' v.ownBlock) : Blk w' g t cs := by
  obtain ⟨vs, h1, _⟩ := ho
  refine (hg.block g h.lt ?_).trans h
  rcases h1.2 with ⟨rfl, _⟩ | ⟨b, cap, cur, rfl, _, hh, _⟩
  · simp [Value.ownBlock]
  · have : g ≠ b := blk_ne h hh ht
    simp [Value.ownBlock, this]
theorem blk_but {w w' : World} {b g t : Nat} {cs : Array Value} (h : Blk w b t cs) (k : SameBut g w w') (hne : b ≠ g) : Blk w' b t cs := (k.2 b h.lt hne).trans h
open Go.Maps in
theorem wpList_appendK {ops : Array Oper} {rest : List Oper} {o : Oper} {a : Act} {Q : Exit → Act → World → Prop} {w : World} {s x : Operand} (hgd : o.guard = none)
    (ho : o.op = .call { callee := .builtin .append, args := #[s, x], argTypes := #[25, 25] })
    (base : Nat) (v : Value) (n : Nat) (xs : List Int) (hs : a.eval s = v) (hown : w.ownsRow base 2 1 v n (cI xs))
    (ad : Addr) (c : Nat) (y : Int) (hx : a.eval x = .slice (some ad) 1 c) (hy : w.cell? ad = some (.int .i64 y)) (hn : n ≤ 100000000) (hbase : base ≤ w.heap.size)
    (h : ∀ g c' w', w'.ownsRow base 2 1 (.slice (some ⟨g, 0, none⟩) (n + 1) c') (n + 1) (cI (xs ++ [y])) → (∀ B w0, B ≤ base → Below B w0 w → Below B w0 w') → (∀ b t cs, Blk w b t cs → t ≠ 2 → Blk w' b t cs) → wpList Try.prog ops Q rest (a.put o.dst (.slice (some ⟨g, 0, none⟩) (n + 1) c')) w') : wpList Try.prog ops Q (o :: rest) a w := by
  obtain ⟨i0, hi0, hz0, hz1, hz2⟩ := info_parts infoI
  refine wpList_append_own w hgd s x 25 ho base 2 i0 (.int .i64 0) 1 8 Try.underlying25 hi0 hz0 hz1 hz2 rfl (by decide) v n (cI xs) hs hown ad 1 c [.int .i64 y] hx rfl ?_ ?_ (by unfold maxLen; omega) (by omega) hbase ?_
  · intro j u hj
    match j, hj with
    | 0, hj => simp at hj; subst hj; obtain ⟨b, o, e⟩ := ad; exact hy
  · intro u hu; simp at hu; subst hu; rfl
  · intro v' w' hown' hg _
    obtain ⟨g, c', rfl, h1, h2⟩ := run_append1 hown hbase hown' hg
    refine h g c' w' h1 h2 fun b t cs hb ht => ?_
    refine (hg.block b hb.lt ?_).trans hb
    rcases hown.2 with ⟨rfl, _⟩ | ⟨b2, cap, cur, rfl, _, hh, _⟩
    · simp [Value.ownBlock]
    · have : b ≠ b2 := blk_ne hb hh ht
      simp [Value.ownBlock, this]
/-- A directed edge's cells. -/
def dirC (d : Nat) : Array Value := #[.int .i64 ((d / 2 : Nat) : Int), .bool (d % 2 == 1)]
theorem runF_one {k : Nat} {F1 met : List Bool} {face : List Int} {d : Nat} (h : (face = [] ∧ met = F1 ∧ d = k) ∨ (0 < face.length ∧ F1.getD k true = false)) (hm : met.getD d true = true) :
    (face = [] ∧ met = F1 ∧ F1.getD k true = true) ∨ (0 < face.length ∧ F1.getD k true = false) := by
  rcases h with ⟨h1, h2, h3⟩ | h
  · subst h2; subst h3; exact .inl ⟨h1, rfl, hm⟩
  · exact .inr h
theorem runF_go1 {k : Nat} {F1 met : List Bool} {face : List Int} {d : Nat} (h : (face = [] ∧ met = F1 ∧ d = k) ∨ (0 < face.length ∧ F1.getD k true = false)) (hm : met.getD d true = false) : F1.getD k true = false := by
  rcases h with ⟨h1, h2, h3⟩ | h
  · subst h2; subst h3; exact hm
  · exact h.2

set_option maxHeartbeats 8000000 in
theorem faces_b (n : Int) (A : Option Addr) (c : Nat) (es : List (Int × Int)) (B : Option Addr) (cb : Nat) (rot : List Int) (w : World) (hg : isGraphB n es = true) (hrot : IsRot n rot) (hl : es.length ≤ 60) (hr : RdE w A es) (hx : RdI w B rot) :
    Calls Try.prog 38 #[.agg #[.int .i64 n, .slice A es.length c], .slice B rot.length cb] w fun e w' => ∃ v, e = .returned v ∧ OwnLL w' w.heap.size v (facesV es rot) ∧ Below w.heap.size w w' := by
  have cn := Lib.hid fun (d : Nat) (hd : d < 2 * es.length) W (hW : Below w.heap.size w W) => behind_b n A c es B cb rot d W hg hd hrot (by omega) (hr.below hW) (hx.below hW)
  have Hnx := Lib.hid fun d (hd : d < 2 * es.length) => nxD_lt hg rot hd
  clear hr hx hrot
  obtain ⟨M, HM⟩ : ∃ M, Hid (rot.length = M) := ⟨_, rfl⟩
  simp only [HM.out] at cn ⊢
  have hl0 : 0 < es.length := (isGraphB_ne hg).1
  obtain ⟨L, HL⟩ : ∃ L, Hid (es.length = L) := ⟨_, rfl⟩
  have Hfa : Hid (facesV es rot = (facesT (nxD es rot) (2 * L) (2 * L)).2) := by show _ = _; rw [facesV, HL.out]
  rw [Hfa.out]
  rw [HL.out] at hl hl0
  simp only [HL.out] at cn Hnx ⊢
  clear hg Hfa
  obtain ⟨D, HD⟩ : ∃ D, Hid (2 * L = D) := ⟨_, rfl⟩
  simp only [HD.out] at cn Hnx ⊢
  unfold dirV at cn
  have Hl := Lib.hid hl
  have hmm := @run_makeMap Try.prog
  have hbelM : Below w.heap.size w ((w.alloc (.cells #[.int .i64 n, .slice A L c] 32)).alloc (.map #[] 0)) := (Below.alloc (Below.refl _ _) (Nat.le_refl _) _).alloc (by simp) _
  have HBM := Lib.hid hbelM
  have HMM := Lib.hid (MapD.made (w.alloc (.cells #[.int .i64 n, .slice A L c] 32)) D)
  clear hbelM
  go_enter Try.func38, Try.ntmps38
  go_wp2
  go_loopw [6, 16] (fun ov iv wr => ∃ i : Nat, i ≤ L ∧ iv = .int .i64 i ∧ Hid (OwnLL wr (w.heap.size + 2) ov (facesT (nxD es rot) D (2 * i)).2) ∧ Hid (MapD wr (w.heap.size + 1) (facesT (nxD es rot) D (2 * i)).1) ∧ Hid (Blk wr w.heap.size 32 #[.int .i64 n, .slice A L c]) ∧ Hid (Below w.heap.size w wr)) (fun _ iv _ => L - (intOf iv).toNat)
  case atStart => exact ⟨0, Nat.zero_le _, rfl, OwnLL.nil _ _, by { show MapD _ _ _; have h := HMM.out; rw [World.size_alloc] at h; exact h }, (Blk.new w _ _).alloc _, HBM⟩
  case round =>
    clear HMM HBM
    obtain ⟨i, hi, rfl, HO, HMp, HK, HBel⟩ := hrel
    have hl := Hl.out
    by_cases hlt : i < L
    · obtain ⟨ei, ei2, ei3⟩ := idxF i L hlt
      obtain ⟨A', c', hov, _⟩ := HO.out.form
      subst hov
      have hmlt := HMp.out.lt
      have hab : Below wr.heap.size wr (wr.alloc (.cells #[.bool false, .bool true] 4)) := (Below.refl _ _).alloc (Nat.le_refl _) _
      have HO2 := Lib.hid (HO.out.below hab (Nat.le_refl _))
      have HM2 := Lib.hid (HMp.out.below hab hmlt)
      have HK2 := Lib.hid (HK.out.alloc (.cells #[.bool false, .bool true] 4))
      have HG2 := Lib.hid (Blk.new wr 4 #[.bool false, .bool true])
      have HB2 : Hid (Below w.heap.size w (wr.alloc (.cells #[.bool false, .bool true] 4))) := HBel.out.trans (hab.mono HBel.out.size)
      clear hab HO HMp HK HBel
      go_wp2_with fail
      obtain ⟨gb, Hgb⟩ : ∃ gb, Hid (wr.heap.size = gb) := ⟨_, rfl⟩
      rw [Hgb.out] at HG2 hmlt
      rw [Hgb.out]
      go_loopw [6, 21] (fun ov jv wr => ∃ j : Nat, j ≤ 2 ∧ jv = .int .i64 j ∧ Hid (OwnLL wr (w.heap.size + 2) ov (facesT (nxD es rot) D (2 * i + j)).2) ∧ Hid (MapD wr (w.heap.size + 1) (facesT (nxD es rot) D (2 * i + j)).1) ∧ Hid (Blk wr w.heap.size 32 #[.int .i64 n, .slice A L c]) ∧ Hid (Blk wr gb 4 #[.bool false, .bool true]) ∧ Hid (Below w.heap.size w wr)) (fun _ jv _ => 2 - (intOf jv).toNat)
      case atStart => exact ⟨0, Nat.zero_le _, rfl, HO2, HM2, HK2, HG2, HB2⟩
      case round =>
        clear HO2 HM2 HK2 HG2 HB2
        obtain ⟨j, hj, rfl, HO, HMp, HK, HG, HBel⟩ := hrel
        by_cases hj2 : j < 2
        · obtain ⟨ej, ej2, ej3⟩ := idxF j 2 hj2
          have hkD : 2 * i + j < D := by have := HD.out; omega
          have hgj : wr.cell? ⟨gb, j, none⟩ = some (.bool ((2 * i + j) % 2 == 1)) := by
            have hc : j = 0 ∨ j = 1 := by omega
            rcases hc with rfl | rfl
            · rw [show (2 * i + 0) % 2 = 0 by omega]; exact HG.out.cellAt 0 _ rfl
            · rw [show (2 * i + 1) % 2 = 1 by omega]; exact HG.out.cellAt 1 _ rfl
          have Hik : Hid ((2 * i + j) / 2 = i) := by show _ = _; omega
          obtain ⟨k, Hk⟩ : ∃ k, Hid (2 * i + j = k) := ⟨_, rfl⟩
          rw [Hk.out] at HO HMp hkD hgj Hik
          have Hlen := Lib.hid (facesT_len (nxD es rot) D k)
          have Hfl := Lib.hid (facesT_le (nxD es rot) D k)
          have HFs := Lib.hid (facesT_step (nxD es rot) D k)
          obtain ⟨F, HF⟩ : ∃ F, Hid (facesT (nxD es rot) D k = F) := ⟨_, rfl⟩
          rw [HF.out] at HO HMp Hlen HFs Hfl
          obtain ⟨A', c', hov, _⟩ := HO.out.form
          subst hov
          obtain ⟨bk, Hbk⟩ : ∃ bk, Hid ((k % 2 == 1) = bk) := ⟨_, rfl⟩
          rw [Hbk.out] at hgj
          have hmlt2 := HMp.out.lt
          have hbsz := HBel.out.size
          go_wp2
          have hab : Below wr.heap.size wr (wr.alloc (.cells #[.int .i64 (i : Int), .bool bk] 92)) := (Below.refl _ _).alloc (Nat.le_refl _) _
          have HM3 := Lib.hid (HMp.out.below hab hmlt2)
          have HK3 := Lib.hid (HK.out.alloc (.cells #[.int .i64 (i : Int), .bool bk] 92))
          have HD3 : Hid (Blk (wr.alloc (.cells #[.int .i64 (i : Int), .bool bk] 92)) wr.heap.size 92 (dirC k)) := by
            show Blk _ _ _ _
            rw [dirC, Hik.out, Hbk.out]; exact Blk.new _ _ _
          have HSB : Hid (SameBut (w.heap.size + 1) wr (wr.alloc (.cells #[.int .i64 (i : Int), .bool bk] 92))) := SameBut.of_below hab
          have HAl := Lib.hid HMp.out.alien
          have HB3 : Hid (Below w.heap.size w (wr.alloc (.cells #[.int .i64 (i : Int), .bool bk] 92))) := HBel.out.trans (hab.mono HBel.out.size)
          have hgblt := HG.out.lt
          have hklt := HK.out.lt
          clear hab HMp HK HBel hgj
          rename World => w5
          obtain ⟨B1, HB1⟩ : ∃ B1, Hid (w5.heap.size = B1) := ⟨_, rfl⟩
          rw [HB1.out] at HD3 hgblt hmlt2 hklt hbsz
          rw [HB1.out]
          obtain ⟨F1, HF1⟩ : ∃ F1, Hid (F.1 = F1) := ⟨_, rfl⟩
          rw [HF1.out] at HM3 Hlen HFs
          have hjd : decide ((j : Int) < 2) = true := by simp; omega
          simp only [hjd]
          clear hjd
          go_loopw [10, 11] (fun fv pv wx => ∃ (met : List Bool) (face : List Int) (d f gd : Nat), pv = .pointer (some ⟨gd, 0, none⟩) ∧ Hid (d < D ∧ met.length = D ∧ openN met ≤ f ∧ face.length + openN met ≤ D) ∧ Hid (runF (nxD es rot) D F1 [] k = runF (nxD es rot) f met face d) ∧ Hid ((face = [] ∧ met = F1 ∧ d = k) ∨ (0 < face.length ∧ F1.getD k true = false)) ∧ Hid (MapD wx (w.heap.size + 1) met) ∧ Hid (Blk wx gd 92 (dirC d)) ∧ Hid (B1 ≤ gd) ∧ Hid (wx.ownsRow B1 2 1 fv face.length (cI face)) ∧ Hid (SameBut (w.heap.size + 1) w5 wx) ∧ Hid (Blk wx w.heap.size 32 #[.int .i64 n, .slice A L c]) ∧ Hid (Below w.heap.size w wx)) (fun _ _ wx => D - sizeM wx (w.heap.size + 1))
          case atStart => exact ⟨F1, [], k, D, B1, rfl, ⟨hkD, Hlen.out, by have := openN_le F1; rw [Hlen.out] at this; exact this, by have := openN_le F1; rw [Hlen.out] at this; simpa using this⟩, rfl, .inl ⟨rfl, rfl, rfl⟩, HM3, HD3, Nat.le_refl _, World.ownsRow_nil _ _ _ _, HSB, HK3, HB3⟩
          case round =>
            clear HM3 HD3 HSB HK3 HB3
            obtain ⟨met, face, d, f, gd, rfl, Hb, Hrun, Hone, HMx, HDx, HgB, Hown, HSB, HK, HBel⟩ := hrel
            obtain ⟨Af, cf, rfl⟩ := own_form Hown.out
            have hdD := Hb.out.1
            have hl := Hl.out
            have hD120 : D ≤ 120 := by have := HD.out; omega
            have hs5 : B1 ≤ wr.heap.size := by rw [← HB1.out]; exact HSB.out.1
            have hMsz := HMx.out.size
            rw [Hb.out.2.1] at hMsz
            have HMsz := Lib.hid hMsz
            have hrun : (Instr.lookup 90 (.map (some (w.heap.size + 1))) (.agg #[.int .i64 ((d / 2 : Nat) : Int), .bool (d % 2 == 1)]) false).run Try.prog wr = .ok (.bool (met.getD d true)) wr := HMx.out.find (by rw [Hb.out.2.1]; omega) (d := d) (by rw [Hb.out.2.1]; exact hdD)
            have d0 : wr.cell? ⟨gd, 0, none⟩ = some (.int .i64 ((d / 2 : Nat) : Int)) := HDx.out.cellAt 0 _ rfl
            have d1 : wr.cell? ⟨gd, 1, none⟩ = some (.bool (d % 2 == 1)) := HDx.out.cellAt 1 _ rfl
            have hgdl := HDx.out.lt
            have cnd := Lib.hid (cn.out d hdD)
            have Hnlt := Lib.hid (Hnx.out d hdD)
            obtain ⟨e0, He0⟩ : ∃ e0, Hid (d / 2 = e0) := ⟨_, rfl⟩
            obtain ⟨b0, Hb0⟩ : ∃ b0, Hid ((d % 2 == 1) = b0) := ⟨_, rfl⟩
            rw [He0.out] at hrun d0 cnd
            rw [Hb0.out] at hrun d1 cnd
            clear hMsz
            cases hmd : met.getD d true
            · rw [hmd] at hrun
              have Hnew := Lib.hid (runF_go1 Hone.out hmd)
              have Hgo : Hid (0 < f ∧ ∀ f', f = f' + 1 → runF (nxD es rot) f met face d = runF (nxD es rot) f' (met.set d true) (face ++ [((d / 2 : Nat) : Int)]) (nxD es rot d)) := by
                refine ⟨?_, fun f' e => by rw [e]; exact runF_go hmd⟩
                have := openN_pos (by rw [Hb.out.2.1]; exact hdD) hmd
                have := Hb.out.2.2.1
                omega
              have Hop : Hid (openN (met.set d true) + 1 = openN met) := openN_set (by rw [Hb.out.2.1]; exact hdD) hmd
              obtain ⟨w2, hput, hM2, hS2, hfr2⟩ := HMx.out.put (by rw [Hb.out.2.1]; omega) (d := d) (by rw [Hb.out.2.1]; exact hdD) hmd
              unfold dirV at hput
              rw [He0.out, Hb0.out] at hput
              obtain ⟨f', rfl⟩ : ∃ f', f = f' + 1 := ⟨f - 1, by have := Hgo.out.1; omega⟩
              have Hgo2 := Lib.hid (Hgo.out.2 f' rfl)
              rw [He0.out] at Hgo2
              have HM2 := Lib.hid hM2
              have hD2 := blk_but HDx.out hS2 (by have := HgB.out; omega)
              have d20 : w2.cell? ⟨gd, 0, none⟩ = some (.int .i64 ((d / 2 : Nat) : Int)) := hD2.cellAt 0 _ rfl
              have d21 : w2.cell? ⟨gd, 1, none⟩ = some (.bool (d % 2 == 1)) := hD2.cellAt 1 _ rfl
              rw [He0.out] at d20
              rw [Hb0.out] at d21
              have HD2 := Lib.hid hD2
              have HK2 := Lib.hid (blk_but HK.out hS2 (by omega))
              have HSB2 : Hid (SameBut (w.heap.size + 1) w5 w2) := HSB.out.trans hS2
              have HB2 := Lib.hid (hfr2 w.heap.size w (by omega) HBel.out)
              have Hown2 := Lib.hid (own_but Hown.out hS2 HMx.out.alien)
              have hs2 : wr.heap.size ≤ w2.heap.size := hS2.1
              clear hmd Hgo hM2 hD2 hS2 hfr2 HMx HDx Hown HK HSB
              have hab : Below w2.heap.size w2 (w2.alloc (.cells #[.int .i64 (e0 : Int)] 2)) := (Below.refl _ _).alloc (Nat.le_refl _) _
              have Hown3 := Lib.hid (own_below Hown2.out hab)
              have hcv : (w2.alloc (.cells #[.int .i64 (e0 : Int)] 2)).cell? ⟨w2.heap.size, 0, none⟩ = some (.int .i64 (e0 : Int)) := (Blk.new w2 2 #[.int .i64 (e0 : Int)]).cellAt 0 _ rfl
              have Hcv := Lib.hid hcv
              clear hcv
              have Hab := Lib.hid hab
              have hfb : face.length ≤ 100000 := by have := Hb.out.2.2.2; omega
              clear hab
              go_wp2_with (first
                | (at_builtin; refine wpList_appendK rfl rfl B1 _ face.length face rfl Hown3.out ⟨w2.heap.size, 0, none⟩ 1 (e0 : Int) rfl Hcv.out (by omega) (by rw [World.size_alloc]; omega) ?_))
              intro g9 c9 w3 hown4 hfr hblk
              have HD3 := Lib.hid (hblk _ _ _ (HD2.out.alloc (.cells #[.int .i64 (e0 : Int)] 2)) (by decide))
              have d30 : w3.cell? ⟨gd, 0, none⟩ = some (.int .i64 ((d / 2 : Nat) : Int)) := HD3.out.cellAt 0 _ rfl
              have d31 : w3.cell? ⟨gd, 1, none⟩ = some (.bool (d % 2 == 1)) := HD3.out.cellAt 1 _ rfl
              rw [He0.out] at d30
              rw [Hb0.out] at d31
              have HK3 := Lib.hid (hblk _ _ _ (HK2.out.alloc (.cells #[.int .i64 (e0 : Int)] 2)) (by decide))
              have HM3 : Hid (MapD w3 (w.heap.size + 1) (met.set d true)) := (HM2.out.below Hab.out HM2.out.lt).below (hfr B1 _ (Nat.le_refl _) (Below.refl _ _)) hmlt2
              have HSB3 : Hid (SameBut (w.heap.size + 1) w5 w3) := (HSB2.out.of_below' Hab.out HSB2.out.1).of_below' (hfr B1 _ (Nat.le_refl _) (Below.refl _ _)) (by rw [HB1.out]; exact Nat.le_refl _)
              have HB3 := Lib.hid (hfr w.heap.size w (by omega) (HB2.out.trans (Hab.out.mono HB2.out.size)))
              have Hown4 := Lib.hid hown4
              have hs3 := HB3.out.size
              have k30 := HK3.out.cellAt 0 _ rfl
              have k31 := HK3.out.cellAt 1 _ rfl
              have hwl3 := HK3.out.lt
              have hm3 := HM3.out.lt
              clear hown4 hfr hblk HM2 HD2 HK2 HSB2 HB2 Hown2 Hown3 Hcv Hab
              have hab4 : Below w3.heap.size w3 (w3.alloc (.cells #[.int .i64 (e0 : Int), .bool b0] 92)) := (Below.refl _ _).alloc (Nat.le_refl _) _
              have HB4 : Hid (Below w.heap.size w (w3.alloc (.cells #[.int .i64 (e0 : Int), .bool b0] 92))) := HB3.out.trans (hab4.mono hs3)
              have HG4 : Hid (Blk (w3.alloc (.cells #[.int .i64 (e0 : Int), .bool b0] 92)) w3.heap.size 92 #[.int .i64 (e0 : Int), .bool b0]) := Blk.new _ _ _
              have Hab4 := Lib.hid hab4
              clear hab4
              go_wp2_with fail
              refine (cnd.out _ HB4.out).mono ?_
              rintro e w6 ⟨rfl, hb6⟩
              have HG6 := Lib.hid (HG4.out.below hb6 HG4.out.lt)
              have hb36 : Below w3.heap.size w3 w6 := Hab4.out.trans (hb6.mono (by simp))
              have Hb36 := Lib.hid hb36
              have g60 := HG6.out.cellAt 0 _ rfl
              have g61 := HG6.out.cellAt 1 _ rfl
              have z60 := HG6.out.frozen 0
              have z61 := HG6.out.frozen 1
              clear hb6 HG4 HB4 Hab4 d30 d31 k30 k31 hb36
              go_wp2
              have HD7 : Hid (Blk ((w6.setCell ⟨w3.heap.size, 0, none⟩ (.int .i64 ((nxD es rot d / 2 : Nat) : Int))).setCell ⟨w3.heap.size, 1, none⟩ (.bool (nxD es rot d % 2 == 1))) w3.heap.size 92 (dirC (nxD es rot d))) := (HG6.out.set_ 0 _).set_ 1 _
              have hb37 : Below w3.heap.size w3 ((w6.setCell ⟨w3.heap.size, 0, none⟩ (.int .i64 ((nxD es rot d / 2 : Nat) : Int))).setCell ⟨w3.heap.size, 1, none⟩ (.bool (nxD es rot d % 2 == 1))) := (Hb36.out.setCell (p := ⟨w3.heap.size, 0, none⟩) (Nat.le_refl _) _).setCell (p := ⟨w3.heap.size, 1, none⟩) (Nat.le_refl _) _
              have HM7 := Lib.hid (HM3.out.below hb37 hm3)
              have HK7 := Lib.hid (HK3.out.below hb37 hwl3)
              have HB7 := Lib.hid (HB3.out.trans (hb37.mono hs3))
              have HSB7 := Lib.hid (HSB3.out.of_below' hb37 HSB3.out.1)
              have Hown7 := Lib.hid (own_below Hown4.out hb37)
              have hsz7 := HM7.out.size
              rw [List.length_set, Hb.out.2.1] at hsz7
              have Hfin : Hid (D - sizeM ((w6.setCell ⟨w3.heap.size, 0, none⟩ (.int .i64 ((nxD es rot d / 2 : Nat) : Int))).setCell ⟨w3.heap.size, 1, none⟩ (.bool (nxD es rot d % 2 == 1))) (w.heap.size + 1) < D - sizeM wr (w.heap.size + 1)) := by
                show _ < _
                have h1 := HMsz.out
                have h2 := Hop.out
                omega
              refine ⟨⟨met.set d true, face ++ [(e0 : Int)], nxD es rot d, f', w3.heap.size, rfl, ⟨Hnlt.out, by rw [List.length_set]; exact Hb.out.2.1, ?_, ?_⟩, Hrun.out.trans Hgo2.out, .inr ⟨by simp, Hnew.out⟩, HM7, HD7, ?_, ?_, HSB7, HK7, HB7⟩, ?_⟩
              · have := Hb.out.2.2.1; have := Hop.out; omega
              · have := Hb.out.2.2.2; have := Hop.out; simp; omega
              · show B1 ≤ _
                have := HSB3.out.1; rw [HB1.out] at this; exact this
              · show World.ownsRow _ _ _ _ _ _ _
                rw [List.length_append]; exact Hown7.out
              · exact Hfin.out
            · rw [hmd] at hrun
              have Hone2 : Hid ((face = [] ∧ met = F1 ∧ F1.getD k true = true) ∨ (0 < face.length ∧ F1.getD k true = false)) := runF_one Hone.out hmd
              have Hst : Hid (runF (nxD es rot) D F1 [] k = (met, face)) := Hrun.out.trans (runF_stop hmd)
              clear hmd
              have hgbm : gb ≠ w.heap.size + 1 := by omega
              obtain ⟨top, htop, HOD⟩ := HO.out
              rw [HB1.out] at htop
              have HO6 := Lib.hid (HOD.but HSB.out HAl.out)
              have HG6 := Lib.hid (blk_but HG.out HSB.out hgbm)
              have e9 : 2 * i + (j + 1) = k + 1 := by have := Hk.out; omega
              have He9 := Lib.hid e9
              have hbw := HBel.out.size
              clear e9 hgbm
              by_cases hf0 : face.length = 0
              · have hF : facesT (nxD es rot) D (k + 1) = F := by
                  rcases Hone2.out with ⟨_, _, h3⟩ | ⟨h1, _⟩
                  · exact HFs.out.1 h3
                  · omega
                have hmet : met = F1 := by
                  rcases Hone2.out with ⟨_, h2, _⟩ | ⟨h1, _⟩
                  · exact h2
                  · omega
                have Hn : Hid (facesT (nxD es rot) D (2 * i + (j + 1)) = F) := by show _ = _; rw [He9.out, hF]
                subst hmet
                rw [hf0]
                clear hF
                go_wp2
                exact ⟨⟨j + 1, by omega, by go_num, by rw [Hn.out]; exact ⟨top, Nat.le_trans htop hs5, HO6.out⟩, by rw [Hn.out, HF1.out]; exact HMx, HK, HG6, HBel⟩, by simp [intOf]; omega⟩
              · have hF : facesT (nxD es rot) D (k + 1) = (met, F.2 ++ [face]) := by
                  rcases Hone2.out with ⟨h1, _, _⟩ | ⟨_, h2⟩
                  · rw [h1] at hf0; simp at hf0
                  · rw [HFs.out.2 h2, Hst.out]
                have Hn : Hid (facesT (nxD es rot) D (2 * i + (j + 1)) = (met, F.2 ++ [face])) := by show _ = _; rw [He9.out, hF]
                have hfp : (0 : Int) < (face.length : Int) := by omega
                have hab : Below wr.heap.size wr (wr.alloc (.cells #[.slice Af face.length cf] 25)) := (Below.refl _ _).alloc (Nat.le_refl _) _
                have HT := Lib.hid (own_below Hown.out hab)
                have HO7 := Lib.hid (HO6.out.below hab (Nat.le_refl _))
                have HM7 := Lib.hid (HMx.out.below hab HMx.out.lt)
                have HK7 := Lib.hid (HK.out.alloc (.cells #[.slice Af face.length cf] 25))
                have HG7 := Lib.hid (HG6.out.alloc (.cells #[.slice Af face.length cf] 25))
                have HB7 : Hid (Below w.heap.size w (wr.alloc (.cells #[.slice Af face.length cf] 25))) := HBel.out.trans (hab.mono HBel.out.size)
                have hfl := Hfl.out
                clear hab hF
                go_wp2_with (first
                  | (at_builtin; refine wpList_appendLL rfl rfl (w.heap.size + 2) top B1 _ F.2 rfl HO7.out htop (by omega) ⟨wr.heap.size, 0, none⟩ 1 _ face rfl (by simp) HT.out (by omega) (by simp; omega) ?_))
                intro v' w3 hL4 hfr hgr
                have HL8 : Hid (OwnLL w3 (w.heap.size + 2) v' (facesT (nxD es rot) D (2 * i + (j + 1))).2) := by
                  show OwnLL _ _ _ _
                  rw [Hn.out]; exact hL4
                have HM8 : Hid (MapD w3 (w.heap.size + 1) (facesT (nxD es rot) D (2 * i + (j + 1))).1) := by
                  show MapD _ _ _
                  rw [Hn.out]; exact HM7.out.below (hfr (w.heap.size + 2) _ (Nat.le_refl _) (Below.refl _ _)) (by omega)
                have HK8 := Lib.hid (HK7.out.below (hfr (w.heap.size + 2) _ (Nat.le_refl _) (Below.refl _ _)) (by omega))
                have HG8 := Lib.hid (blk_grownLL HG7.out (by decide) HO7.out hgr)
                have HB8 := Lib.hid (hfr w.heap.size w (by omega) HB7.out)
                clear hL4 hfr hgr
                go_wp2
                exact ⟨⟨j + 1, by omega, by go_num, HL8, HM8, HK8, HG8, HB8⟩, by simp [intOf]; omega⟩
        · obtain rfl : j = 2 := by omega
          go_wp2
          exact ⟨⟨i + 1, by omega, by go_num, HO, HMp, HK, HBel⟩, by simp [intOf]; omega⟩
    · obtain rfl : L = i := by omega
      go_wp2
      go_ret
      exact ⟨_, rfl, by rw [← HD.out] at HO ⊢; exact HO.out.mono (by omega), HBel.out⟩
end Go.Proofs.Ytigdfcigoejjjaa
