/- The reference's faces of a rotation. No statement of the program is proved here. -/
import Derived.Test.YtigdfcigoejjjaaFa2
import Derived.Test.YtigdfcigoejjjaaLl2
namespace Go.Proofs.Ytigdfcigoejjjaa
open Go.RowKit
set_option linter.unusedSimpArgs false
set_option linter.unusedVariables false
set_option maxRecDepth 20000

theorem infoBool : (Try.prog.info? 4).map (fun i => (i.zero, i.size, i.bytes)) = some (some (.bool false), 1, 1) := by kernel_rfl
theorem wrap_half (d : Nat) : (d : Int).tdiv 2 = ((d / 2 : Nat) : Int) := by rw [Int.tdiv_eq_ediv_of_nonneg (by omega)]; omega
theorem wrap_bit (d : Nat) : (d : Int).tmod 2 = ((d % 2 : Nat) : Int) := by rw [Int.tmod_eq_emod_of_nonneg (by omega)]; omega

set_option maxHeartbeats 8000000 in
theorem l07Faces_b (n : Int) (A : Option Addr) (c : Nat) (es : List (Int × Int)) (B : Option Addr) (cb : Nat) (rot : List Int) (w : World) (hg : isGraphB n es = true) (hrot : IsRot n rot) (hl : es.length ≤ 60) (hr : RdE w A es) (hx : RdI w B rot) :
    Calls Try.prog 34 #[.agg #[.int .i64 n, .slice A es.length c], .slice B rot.length cb] w fun e w' => ∃ v, e = .returned v ∧ OwnLL w' w.heap.size v (facesV es rot) ∧ Below w.heap.size w w' := by
  have cn := Lib.hid fun (d : Nat) (hd : d < 2 * es.length) W (hW : Below w.heap.size w W) => l07Next_b n A c es B cb rot d (d / 2) W hg hd hrot rfl (by omega) (hr.below hW) (hx.below hW)
  have Hre := Lib.hid fun W (hW : Below w.heap.size w W) => hr.below hW
  have Hnx := Lib.hid fun d (hd : d < 2 * es.length) => nxD_lt hg rot hd
  have Hal := Lib.hid fun d (hd : d < 2 * es.length) => nxD_alt hg rot hd
  have Hnl := Lib.hid fun d (hd : d < 2 * es.length) => (nextE_lt hg rot hd).1
  have Hin := Lib.hid (isGraphB_in hg)
  clear hr hx hrot
  obtain ⟨M, HM⟩ : ∃ M, Hid (rot.length = M) := ⟨_, rfl⟩
  simp only [HM.out] at cn ⊢
  have hl0 : 0 < es.length := (isGraphB_ne hg).1
  obtain ⟨L, HL⟩ : ∃ L, Hid (es.length = L) := ⟨_, rfl⟩
  have Hfa : Hid (facesV es rot = (facesT (nxD es rot) (2 * L) (2 * L)).2) := by show _ = _; rw [facesV, HL.out]
  rw [Hfa.out]
  rw [HL.out] at hl hl0
  simp only [HL.out] at cn Hnx Hal Hnl ⊢
  clear hg Hfa
  obtain ⟨D, HD⟩ : ∃ D, Hid (2 * L = D) := ⟨_, rfl⟩
  simp only [HD.out] at cn Hnx Hal Hnl ⊢
  have hD : D ≤ 120 := by have := HD.out; omega
  have wD : wrap64 (2 * (L : Int)) = (D : Int) := by have := HD.out; rw [wrap64_small (by omega) (by omega)]; omega
  have hmk := mk_row Try.underlying86 infoBool D (by omega) (by omega)
  simp only [made_bool] at hmk
  have hmk0 : (List.replicate D (Value.bool false)) = cB (List.replicate D false) := by simp [cB]
  rw [hmk0] at hmk
  clear hmk0
  have Hl := Lib.hid hl
  have HDl := Lib.hid hD
  clear hl hD
  go_enter Try.func34, Try.ntmps34
  go_wp2
  simp only [wD]
  go_loopw [6, 7] (fun ov dv wr => ∃ k : Nat, k ≤ D ∧ dv = .int .i64 k ∧ Hid (OwnLL wr (w.heap.size + 2) ov (facesT (nxD es rot) D k).2) ∧ Hid (Blk wr (w.heap.size + 1) 4 (cB (facesT (nxD es rot) D k).1).toArray) ∧ Hid (Blk wr w.heap.size 32 #[.int .i64 n, .slice A L c]) ∧ Hid (Below w.heap.size w wr)) (fun _ dv _ => D - (intOf dv).toNat)
  case atStart => exact ⟨0, Nat.zero_le _, rfl, OwnLL.blk0 (Blk.new' _ (by simp)) (Nat.le_refl _), (Blk.new' (n := w.heap.size + 1) _ (by simp)).alloc _, ((Blk.new w _ _).alloc _).alloc _, by show Below _ _ _; (repeat' (first | (with_reducible exact Below.refl _ _) | (with_reducible assumption) | (with_reducible refine Below.alloc ?_ ?_ _) | (with_reducible refine Below.drew ?_) | (with_reducible refine below_drewN ?_ _) | (with_reducible refine Below.setCell ?_ ?_ _) | (with_reducible refine Below.trans ?_ (Below.mono (by assumption) ?_)) | (first | omega | (simp only [World.size_alloc, World.size_setCell, World.size_drew]; omega) | (simp; omega) | (simp; done))))⟩
  case round =>
    obtain ⟨k, hk, rfl, HO, HM2, HK, HBel⟩ := hrel
    have hD := HDl.out
    have Hlen := Lib.hid (facesT_len (nxD es rot) D k)
    have Hfl := Lib.hid (facesT_le (nxD es rot) D k)
    have HFs := Lib.hid (facesT_step (nxD es rot) D k)
    obtain ⟨F, HF⟩ : ∃ F, Hid (facesT (nxD es rot) D k = F) := ⟨_, rfl⟩
    rw [HF.out] at HO HM2 Hlen HFs Hfl
    obtain ⟨A', c', hov, _⟩ := HO.out.form
    subst hov
    have hsz := HM2.out.lt
    have hwl := HK.out.lt
    by_cases hlt : k < D
    · have hcm := cB_cell HM2.out (d := k) (by rw [Hlen.out]; exact hlt)
      obtain ⟨ek, ek2, ek3⟩ := idxF k D hlt
      cases hmk9 : F.1.getD k true
      · rw [hmk9] at hcm
        have Hn := Lib.hid (HFs.out.2 hmk9)
        clear hmk9 HFs
        go_wp2
        have HM3 : Hid (Blk (wr.alloc (.cells #[] 2)) (w.heap.size + 1) 4 (cB F.1).toArray) := HM2.out.alloc _
        have HK3 : Hid (Blk (wr.alloc (.cells #[] 2)) w.heap.size 32 #[.int .i64 n, .slice A L c]) := HK.out.alloc _
        have hab : Below wr.heap.size wr (wr.alloc (.cells #[] 2)) := (Below.refl _ _).alloc (Nat.le_refl _) _
        have HSB : Hid (SameBut (w.heap.size + 1) wr (wr.alloc (.cells #[] 2))) := SameBut.of_below hab
        have HAl : Hid (Alien wr (w.heap.size + 1)) := alien_blk HM2.out (by decide) (by decide)
        have HF0 : Hid ((wr.alloc (.cells #[] 2)).ownsRow wr.heap.size 2 1 (.slice (some ⟨wr.heap.size, 0, none⟩) 0 0) 0 (cI [])) := own_blk (xs := []) (Blk.new wr 2 #[]) (by simp) (by decide)
        have HB3 : Hid (Below w.heap.size w (wr.alloc (.cells #[] 2))) := HBel.out.trans (hab.mono HBel.out.size)
        clear hab HM2 HK HBel hcm
        rename World => w5
        obtain ⟨B1, HB1⟩ : ∃ B1, Hid (w5.heap.size = B1) := ⟨_, rfl⟩
        rw [HB1.out] at HF0 hsz hwl
        rw [HB1.out]
        obtain ⟨F1, HF1⟩ : ∃ F1, Hid (F.1 = F1) := ⟨_, rfl⟩
        rw [HF1.out] at HM3 Hlen Hn
        go_loopw [8, 9] (fun fv av wx => ∃ (met : List Bool) (face : List Int) (d f : Nat), av = .int .i64 d ∧ Hid (d < D ∧ met.length = D ∧ openN met ≤ f ∧ face.length + openN met ≤ D) ∧ Hid (runF (nxD es rot) D F1 [] k = runF (nxD es rot) f met face d) ∧ Hid (Blk wx (w.heap.size + 1) 4 (cB met).toArray) ∧ Hid (wx.ownsRow B1 2 1 fv face.length (cI face)) ∧ Hid (SameBut (w.heap.size + 1) w5 wx) ∧ Hid (Blk wx w.heap.size 32 #[.int .i64 n, .slice A L c]) ∧ Hid (Below w.heap.size w wx)) (fun _ _ wx => openW wx (w.heap.size + 1) D)
        case atStart => exact ⟨F1, [], k, D, rfl, ⟨hlt, Hlen.out, by have := openN_le F1; rw [Hlen.out] at this; exact this, by have := openN_le F1; rw [Hlen.out] at this; simpa using this⟩, rfl, HM3, HF0, HSB, HK3, HB3⟩
        case round =>
          clear HM3 HF0 HSB HK3 HB3
          obtain ⟨met, face, d, f, rfl, Hb, Hrun, HM, Hown, HSB, HK, HBel⟩ := hrel
          have hs5 : B1 ≤ wr.heap.size := by rw [← HB1.out]; exact HSB.out.1
          obtain ⟨Af, cf, rfl⟩ := own_form Hown.out
          have hdD := Hb.out.1
          have hl := Hl.out
          have hcd := cB_cell HM.out (d := d) (by rw [Hb.out.2.1]; exact hdD)
          have hsz2 := HM.out.lt
          obtain ⟨ed, ed2, ed3⟩ := idxF d D hdD
          have How : Hid (openW wr (w.heap.size + 1) D = openN met) := by show _ = _; rw [← Hb.out.2.1]; exact openW_blk HM.out
          cases hmd : met.getD d true
          · rw [hmd] at hcd
            have Hgo : Hid (0 < f ∧ ∀ f', f = f' + 1 → runF (nxD es rot) f met face d = runF (nxD es rot) f' (met.set d true) (face ++ [((d / 2 : Nat) : Int)]) (nxD es rot d)) := by
              refine ⟨?_, fun f' e => by rw [e]; exact runF_go hmd⟩
              have := openN_pos (by rw [Hb.out.2.1]; exact hdD) hmd
              have := Hb.out.2.2.1
              omega
            have Hop : Hid (openN (met.set d true) + 1 = openN met) := openN_set (by rw [Hb.out.2.1]; exact hdD) hmd
            clear hmd
            obtain ⟨f', rfl⟩ : ∃ f', f = f' + 1 := ⟨f - 1, by have := Hgo.out.1; omega⟩
            have Hgo2 := Lib.hid (Hgo.out.2 f' rfl)
            clear Hgo
            have he : d / 2 < L := by have := HD.out; omega
            obtain ⟨xa, xb, hxab, hxa, hxb⟩ := Hin.out (d / 2) (by rw [HL.out]; exact he)
            obtain ⟨ne, Hne⟩ : ∃ ne, Hid (nextE es rot d = ne) := ⟨_, rfl⟩
            have hneL : ne < L := by have := Hnl.out d hdD; rw [Hne.out] at this; exact this
            obtain ⟨xp, xq, hpq, hp, hq⟩ := Hin.out ne (by rw [HL.out]; exact hneL)
            have Hnd := Lib.hid (Hal.out d hdD)
            have Hnlt := Lib.hid (Hnx.out d hdD)
            rw [Hne.out, hpq] at Hnd
            have cnd := Lib.hid (cn.out d hdD)
            rw [Hne.out] at cnd
            have hhalf := wrap_half d
            have hbit := wrap_bit d
            obtain ⟨e0, He0⟩ : ∃ e0, Hid (d / 2 = e0) := ⟨_, rfl⟩
            rw [He0.out] at hhalf he hxab cnd Hgo2
            obtain ⟨ee, ee2, ee3⟩ := idxF e0 L he
            obtain ⟨en, en2, en3⟩ := idxF ne L hneL
            have Hend : Hid (endD es d = if d % 2 = 1 then (xa : Int) else (xb : Int)) := by
              show _ = _
              rw [endD, He0.out, hxab]
            have fz := HM.out.frozen d
            rcases Nat.mod_two_eq_zero_or_one d with hm2 | hm2
            · skip
              rw [hm2] at hbit
              have Hen : Hid (endD es d = (xb : Int)) := by show _ = _; rw [Hend.out]; simp [hm2]
              rw [Hen.out] at cnd Hnd
              have hbE := Hre.out wr HBel.out
              have Hrw := Lib.hid (hbE.pos (by rw [HL.out]; omega))
              have HM4 := Lib.hid ((cB_set (d := d) HM.out true).alloc (.cells #[.int .i64 (e0 : Int)] 2))
              have HB4 : Hid (Below w.heap.size w ((wr.setCell ⟨w.heap.size + 1, d, none⟩ (.bool true)).alloc (.cells #[.int .i64 (e0 : Int)] 2))) := by
                show Below _ _ _
                exact (HBel.out.setCell (p := ⟨w.heap.size + 1, d, none⟩) (by show w.heap.size ≤ w.heap.size + 1; omega) _).alloc (by have := HBel.out.size; simpa [World.setCell] using this) _
              have hs4 : (wr.setCell ⟨w.heap.size + 1, d, none⟩ (.bool true)).heap.size = wr.heap.size := by simp [World.setCell]
              have Hs4 := Lib.hid hs4
              have hab : Below (wr.setCell ⟨w.heap.size + 1, d, none⟩ (.bool true)).heap.size (wr.setCell ⟨w.heap.size + 1, d, none⟩ (.bool true)) ((wr.setCell ⟨w.heap.size + 1, d, none⟩ (.bool true)).alloc (.cells #[.int .i64 (e0 : Int)] 2)) := (Below.refl _ _).alloc (Nat.le_refl _) _
              have Hown4 := Lib.hid (own_below (own_set_far (i := d) (u := .bool true) Hown.out (show w.heap.size + 1 < B1 by omega)) hab)
              have HSB4 : Hid (SameBut (w.heap.size + 1) w5 ((wr.setCell ⟨w.heap.size + 1, d, none⟩ (.bool true)).alloc (.cells #[.int .i64 (e0 : Int)] 2))) := (HSB.out.set d (.bool true)).of_below' hab (by rw [hs4]; exact HSB.out.1)
              have HK4 : Hid (Blk ((wr.setCell ⟨w.heap.size + 1, d, none⟩ (.bool true)).alloc (.cells #[.int .i64 (e0 : Int)] 2)) w.heap.size 32 #[.int .i64 n, .slice A L c]) := (HK.out.far (p := ⟨w.heap.size + 1, d, none⟩) (by show w.heap.size ≠ w.heap.size + 1; omega) _).alloc _
              have hfb : face.length ≤ 100000 := by have := Hb.out.2.2.2; have := HDl.out; omega
              clear hs4 hab hbE
              go_wp2_with (first
                | (at_builtin; refine wpList_append1 rfl rfl B1 _ face.length face rfl Hown4.out ⟨wr.heap.size, 0, none⟩ 1 (e0 : Int) rfl (by first | (simp; done) | (rw [← Hs4.out]; exact (Blk.new _ 2 #[.int .i64 (e0 : Int)]).cellAt 0 _ rfl)) (by omega) (by rw [World.size_alloc, Hs4.out]; omega) ?_))
              intro g9 c9 w3 hown3 hfr
              have HM5 := Lib.hid (HM4.out.below (hfr B1 _ (Nat.le_refl _) (Below.refl _ _)) hsz)
              have HK5 := Lib.hid (HK4.out.below (hfr B1 _ (Nat.le_refl _) (Below.refl _ _)) hwl)
              have HSB5 : Hid (SameBut (w.heap.size + 1) w5 w3) := HSB4.out.of_below' (hfr B1 _ (Nat.le_refl _) (Below.refl _ _)) (by rw [HB1.out]; exact Nat.le_refl _)
              have HB5 := Lib.hid (hfr w.heap.size w (by omega) HB4.out)
              have Hown5 := Lib.hid hown3
              have k50 := HK5.out.cellAt 0 _ rfl
              have k51 := HK5.out.cellAt 1 _ rfl
              obtain ⟨bE, oE, rfl, hE1, hE2⟩ := (Hre.out w3 HB5.out).pos (by rw [HL.out]; omega)
              obtain ⟨hc0, hc1⟩ := hE2 e0 (by rw [HL.out]; exact he)
              rw [hxab] at hc0 hc1
              dsimp only at hc0 hc1
              have cn2 := cnd.out w3 HB5.out
              clear hown3 hfr HM4 HB4 HK4 HSB4 Hown4 hE2 Hrw hE1
              go_wp2_with fail
              refine cn2.mono ?_
              rintro e w4 ⟨rfl, hb4⟩
              have hs3 := HB5.out.size
              have HM6 := Lib.hid (HM5.out.below hb4 HM5.out.lt)
              have HK6 := Lib.hid (HK5.out.below hb4 HK5.out.lt)
              have HSB6 : Hid (SameBut (w.heap.size + 1) w5 w4) := HSB5.out.of_below' hb4 HSB5.out.1
              have HB6 := Lib.hid (HB5.out.trans (hb4.mono hs3))
              have Hown6 := Lib.hid (own_below Hown5.out hb4)
              have k60 := HK6.out.cellAt 0 _ rfl
              have k61 := HK6.out.cellAt 1 _ rfl
              obtain ⟨bE9, oE9, e9, hE9, hE8⟩ := (Hre.out w4 HB6.out).pos (by rw [HL.out]; omega)
              injection e9 with e9
              injection e9 with e9 e10 _
              subst e9; subst e10
              obtain ⟨hd0, hd1⟩ := hE8 ne (by rw [HL.out]; exact hneL)
              rw [hpq] at hd0 hd1
              dsimp only at hd0 hd1
              have How6 : Hid (openW w4 (w.heap.size + 1) D < openW wr (w.heap.size + 1) D) := by
                show _ < _
                have h1 := openW_blk HM6.out
                rw [List.length_set, Hb.out.2.1] at h1
                rw [h1, How.out]
                have := Hop.out; omega
              have Hb6 : Hid (nxD es rot d < D ∧ (met.set d true).length = D ∧ openN (met.set d true) ≤ f' ∧ (face ++ [(e0 : Int)]).length + openN (met.set d true) ≤ D) := by
                refine ⟨Hnlt.out, by rw [List.length_set]; exact Hb.out.2.1, ?_, ?_⟩
                · have := Hb.out.2.2.1; have := Hop.out; omega
                · have := Hb.out.2.2.2; have := Hop.out; simp; omega
              clear hE8 hE9 hc0 hc1 k50 k51 hb4
              by_cases hxx : (xp : Int) = (xb : Int)
              · have Hn9 := Lib.hid (Hnd.out.1 hxx)
                have hbb : ((xp : Int) != (xb : Int)) = false := by simp; omega
                clear hxx
                go_wp2
                refine ⟨⟨met.set d true, face ++ [(e0 : Int)], nxD es rot d, f', ?_, Hb6, Hrun.out.trans Hgo2.out, HM6, ?_, HSB6, HK6, HB6⟩, How6.out⟩
                · rw [Hn9.out]; simp
                · show World.ownsRow _ _ _ _ _ _ _
                  rw [List.length_append]; exact Hown6.out
              · have Hn9 := Lib.hid (Hnd.out.2 hxx)
                have hbb : ((xp : Int) != (xb : Int)) = true := by simp; omega
                clear hxx
                go_wp2
                refine ⟨⟨met.set d true, face ++ [(e0 : Int)], nxD es rot d, f', ?_, Hb6, Hrun.out.trans Hgo2.out, HM6, ?_, HSB6, HK6, HB6⟩, How6.out⟩
                · rw [Hn9.out]; simp
                · show World.ownsRow _ _ _ _ _ _ _
                  rw [List.length_append]; exact Hown6.out
            · skip
              rw [hm2] at hbit
              have Hen : Hid (endD es d = (xa : Int)) := by show _ = _; rw [Hend.out]; simp [hm2]
              rw [Hen.out] at cnd Hnd
              have hbE := Hre.out wr HBel.out
              have Hrw := Lib.hid (hbE.pos (by rw [HL.out]; omega))
              have HM4 := Lib.hid ((cB_set (d := d) HM.out true).alloc (.cells #[.int .i64 (e0 : Int)] 2))
              have HB4 : Hid (Below w.heap.size w ((wr.setCell ⟨w.heap.size + 1, d, none⟩ (.bool true)).alloc (.cells #[.int .i64 (e0 : Int)] 2))) := by
                show Below _ _ _
                exact (HBel.out.setCell (p := ⟨w.heap.size + 1, d, none⟩) (by show w.heap.size ≤ w.heap.size + 1; omega) _).alloc (by have := HBel.out.size; simpa [World.setCell] using this) _
              have hs4 : (wr.setCell ⟨w.heap.size + 1, d, none⟩ (.bool true)).heap.size = wr.heap.size := by simp [World.setCell]
              have Hs4 := Lib.hid hs4
              have hab : Below (wr.setCell ⟨w.heap.size + 1, d, none⟩ (.bool true)).heap.size (wr.setCell ⟨w.heap.size + 1, d, none⟩ (.bool true)) ((wr.setCell ⟨w.heap.size + 1, d, none⟩ (.bool true)).alloc (.cells #[.int .i64 (e0 : Int)] 2)) := (Below.refl _ _).alloc (Nat.le_refl _) _
              have Hown4 := Lib.hid (own_below (own_set_far (i := d) (u := .bool true) Hown.out (show w.heap.size + 1 < B1 by omega)) hab)
              have HSB4 : Hid (SameBut (w.heap.size + 1) w5 ((wr.setCell ⟨w.heap.size + 1, d, none⟩ (.bool true)).alloc (.cells #[.int .i64 (e0 : Int)] 2))) := (HSB.out.set d (.bool true)).of_below' hab (by rw [hs4]; exact HSB.out.1)
              have HK4 : Hid (Blk ((wr.setCell ⟨w.heap.size + 1, d, none⟩ (.bool true)).alloc (.cells #[.int .i64 (e0 : Int)] 2)) w.heap.size 32 #[.int .i64 n, .slice A L c]) := (HK.out.far (p := ⟨w.heap.size + 1, d, none⟩) (by show w.heap.size ≠ w.heap.size + 1; omega) _).alloc _
              have hfb : face.length ≤ 100000 := by have := Hb.out.2.2.2; have := HDl.out; omega
              clear hs4 hab hbE
              go_wp2_with (first
                | (at_builtin; refine wpList_append1 rfl rfl B1 _ face.length face rfl Hown4.out ⟨wr.heap.size, 0, none⟩ 1 (e0 : Int) rfl (by first | (simp; done) | (rw [← Hs4.out]; exact (Blk.new _ 2 #[.int .i64 (e0 : Int)]).cellAt 0 _ rfl)) (by omega) (by rw [World.size_alloc, Hs4.out]; omega) ?_))
              intro g9 c9 w3 hown3 hfr
              have HM5 := Lib.hid (HM4.out.below (hfr B1 _ (Nat.le_refl _) (Below.refl _ _)) hsz)
              have HK5 := Lib.hid (HK4.out.below (hfr B1 _ (Nat.le_refl _) (Below.refl _ _)) hwl)
              have HSB5 : Hid (SameBut (w.heap.size + 1) w5 w3) := HSB4.out.of_below' (hfr B1 _ (Nat.le_refl _) (Below.refl _ _)) (by rw [HB1.out]; exact Nat.le_refl _)
              have HB5 := Lib.hid (hfr w.heap.size w (by omega) HB4.out)
              have Hown5 := Lib.hid hown3
              have k50 := HK5.out.cellAt 0 _ rfl
              have k51 := HK5.out.cellAt 1 _ rfl
              obtain ⟨bE, oE, rfl, hE1, hE2⟩ := (Hre.out w3 HB5.out).pos (by rw [HL.out]; omega)
              obtain ⟨hc0, hc1⟩ := hE2 e0 (by rw [HL.out]; exact he)
              rw [hxab] at hc0 hc1
              dsimp only at hc0 hc1
              have cn2 := cnd.out w3 HB5.out
              clear hown3 hfr HM4 HB4 HK4 HSB4 Hown4 hE2 Hrw hE1
              go_wp2_with fail
              refine cn2.mono ?_
              rintro e w4 ⟨rfl, hb4⟩
              have hs3 := HB5.out.size
              have HM6 := Lib.hid (HM5.out.below hb4 HM5.out.lt)
              have HK6 := Lib.hid (HK5.out.below hb4 HK5.out.lt)
              have HSB6 : Hid (SameBut (w.heap.size + 1) w5 w4) := HSB5.out.of_below' hb4 HSB5.out.1
              have HB6 := Lib.hid (HB5.out.trans (hb4.mono hs3))
              have Hown6 := Lib.hid (own_below Hown5.out hb4)
              have k60 := HK6.out.cellAt 0 _ rfl
              have k61 := HK6.out.cellAt 1 _ rfl
              obtain ⟨bE9, oE9, e9, hE9, hE8⟩ := (Hre.out w4 HB6.out).pos (by rw [HL.out]; omega)
              injection e9 with e9
              injection e9 with e9 e10 _
              subst e9; subst e10
              obtain ⟨hd0, hd1⟩ := hE8 ne (by rw [HL.out]; exact hneL)
              rw [hpq] at hd0 hd1
              dsimp only at hd0 hd1
              have How6 : Hid (openW w4 (w.heap.size + 1) D < openW wr (w.heap.size + 1) D) := by
                show _ < _
                have h1 := openW_blk HM6.out
                rw [List.length_set, Hb.out.2.1] at h1
                rw [h1, How.out]
                have := Hop.out; omega
              have Hb6 : Hid (nxD es rot d < D ∧ (met.set d true).length = D ∧ openN (met.set d true) ≤ f' ∧ (face ++ [(e0 : Int)]).length + openN (met.set d true) ≤ D) := by
                refine ⟨Hnlt.out, by rw [List.length_set]; exact Hb.out.2.1, ?_, ?_⟩
                · have := Hb.out.2.2.1; have := Hop.out; omega
                · have := Hb.out.2.2.2; have := Hop.out; simp; omega
              clear hE8 hE9 hc0 hc1 k50 k51 hb4
              by_cases hxx : (xp : Int) = (xa : Int)
              · have Hn9 := Lib.hid (Hnd.out.1 hxx)
                have hbb : ((xp : Int) != (xa : Int)) = false := by simp; omega
                clear hxx
                go_wp2
                refine ⟨⟨met.set d true, face ++ [(e0 : Int)], nxD es rot d, f', ?_, Hb6, Hrun.out.trans Hgo2.out, HM6, ?_, HSB6, HK6, HB6⟩, How6.out⟩
                · rw [Hn9.out]; simp
                · show World.ownsRow _ _ _ _ _ _ _
                  rw [List.length_append]; exact Hown6.out
              · have Hn9 := Lib.hid (Hnd.out.2 hxx)
                have hbb : ((xp : Int) != (xa : Int)) = true := by simp; omega
                clear hxx
                go_wp2
                refine ⟨⟨met.set d true, face ++ [(e0 : Int)], nxD es rot d, f', ?_, Hb6, Hrun.out.trans Hgo2.out, HM6, ?_, HSB6, HK6, HB6⟩, How6.out⟩
                · rw [Hn9.out]; simp
                · show World.ownsRow _ _ _ _ _ _ _
                  rw [List.length_append]; exact Hown6.out
          · rw [hmd] at hcd
            have Hst : Hid (runF (nxD es rot) D F1 [] k = (met, face)) := Hrun.out.trans (runF_stop hmd)
            rw [Hst.out] at Hn
            have hab : Below wr.heap.size wr (wr.alloc (.cells #[.slice Af face.length cf] 25)) := (Below.refl _ _).alloc (Nat.le_refl _) _
            have HT := Lib.hid (own_below Hown.out hab)
            obtain ⟨top, htop, HOD⟩ := HO.out
            rw [HB1.out] at htop
            have HO6 := Lib.hid ((HOD.but HSB.out HAl.out).below hab (Nat.le_refl _))
            have HM6 := Lib.hid (HM.out.alloc (.cells #[.slice Af face.length cf] 25))
            have HK6 := Lib.hid (HK.out.alloc (.cells #[.slice Af face.length cf] 25))
            have HB6 : Hid (Below w.heap.size w (wr.alloc (.cells #[.slice Af face.length cf] 25))) := HBel.out.trans (hab.mono HBel.out.size)
            have hfl := Hfl.out
            have hD := HDl.out
            clear hab hmd
            go_wp2_with (first
              | (at_builtin; refine wpList_appendLL rfl rfl (w.heap.size + 2) top B1 _ F.2 rfl HO6.out htop (by omega) ⟨wr.heap.size, 0, none⟩ 1 _ face rfl (by simp) HT.out (by omega) (by simp; omega) ?_))
            intro v' w3 hL4 hfr _
            have HL7 : Hid (OwnLL w3 (w.heap.size + 2) v' (facesT (nxD es rot) D (k + 1)).2) := by
              show OwnLL _ _ _ _
              rw [Hn.out]; exact hL4
            have HM7 : Hid (Blk w3 (w.heap.size + 1) 4 (cB (facesT (nxD es rot) D (k + 1)).1).toArray) := by
              show Blk _ _ _ _
              rw [Hn.out]; exact HM6.out.below (hfr (w.heap.size + 2) _ (Nat.le_refl _) (Below.refl _ _)) (by omega)
            have HK7 := Lib.hid (HK6.out.below (hfr (w.heap.size + 2) _ (Nat.le_refl _) (Below.refl _ _)) (by omega))
            have HB7 := Lib.hid (hfr w.heap.size w (by omega) HB6.out)
            clear hL4 hfr
            go_wp2
            exact ⟨⟨k + 1, by omega, by go_num, HL7, HM7, HK7, HB7⟩, by simp [intOf]; omega⟩
      · rw [hmk9] at hcm
        have Hn := Lib.hid (HFs.out.1 hmk9)
        clear hmk9
        go_wp2
        exact ⟨⟨k + 1, by omega, by go_num, by rw [Hn.out]; exact HO, by rw [Hn.out]; exact HM2, HK, HBel⟩, by simp [intOf]; omega⟩
    · obtain rfl : D = k := by omega
      go_wp2
      go_ret
      exact ⟨_, rfl, by rw [HF.out]; exact HO.out.mono (by omega), HBel.out⟩
end Go.Proofs.Ytigdfcigoejjjaa
