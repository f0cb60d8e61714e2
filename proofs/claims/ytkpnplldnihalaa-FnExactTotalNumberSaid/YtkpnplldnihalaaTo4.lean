/- The reference's l08Rows with vertices: the walk. -/
import Derived.Test.YtkpnplldnihalaaTo3
namespace Go.Proofs.Ytkpnplldnihalaa
open Go.RowKit
set_option linter.unusedSimpArgs false
set_option linter.unusedVariables false
set_option maxRecDepth 20000

set_option maxHeartbeats 8000000 in
theorem l08RowsT_b (N T : Nat) (A : Option Addr) (c : Nat) (es : List (Int × Int)) (w : World) (hT : Hid (N + es.length = T)) (hN : 1 ≤ N) (hN2 : N ≤ 1000) (hl : es.length ≤ 1000) (hin : InN N es) (hr : RdE w A es) :
    Calls Try.prog 73 #[.agg #[.int .i64 N, .slice A es.length c], .bool true] w fun e w' => ∃ g c' R M, e = .returned (.slice (some ⟨g, 0, none⟩) T c') ∧ Mat w' g 0 T T R M ∧ RelP T M (nearT N es es.length 0) ∧ Below w.heap.size w w' := by
  have cn := fun (i j : Nat) (hi : i < es.length) (hj : j < es.length) (W : World) (hW : Below w.heap.size w W) (q : Bool) (hq : Hid (nearAre es i j = q)) => l08Near_b N A c es i j W q hq hi hj (by omega) (hr.below hW)
  obtain ⟨iL, hiL, hzL0, hzL1, hzL2⟩ := info_parts infoL
  have hT1 : T ≤ 2000 := by have := hT.out; omega
  have hT2 : 0 < T := by have := hT.out; omega
  have hmk := mk_row Try.underlying36 infoI T (by omega) (by omega)
  simp only [made_int] at hmk
  have Hmk := Lib.hid hmk; clear hmk
  have Hre : Hid (∀ W, Below w.heap.size w W → RdE W A es) := fun W hW => hr.below hW
  have Hin : Hid (InN N es) := hin
  have WT : Hid (wrap64 ((N : Int) + (es.length : Int)) = (T : Int)) := by show _ = _; rw [← hT.out]; exact wrapS _ _ (by omega)
  clear hr hin
  obtain ⟨L, HL⟩ : ∃ L, Hid (es.length = L) := ⟨_, rfl⟩
  rw [HL.out] at cn hT WT hl ⊢
  have Cn := Lib.hid cn; clear cn
  have HN2 := Lib.hid hN2
  have hLT : L ≤ T := by have := hT.out; omega
  clear hN2 hl hN
  go_enter Try.func73, Try.ntmps73
  go_wp2
  go_quiet (fail)
  rename_i nq
  go_wp2
  go_loopw [7, 8] (fun v s wr => ∃ (k : Nat) (R : Nat → Nat), k ≤ T ∧ s = .int .i64 k ∧ Hid (ZM wr (w.heap.size + 1) v k T R) ∧ Hid (Blk wr w.heap.size 30 #[.int .i64 N, .slice A L c]) ∧ (∃ g c', v = .slice (some ⟨g, 0, none⟩) k c') ∧ Hid (Below w.heap.size w wr) ∧ w.heap.size + 1 ≤ wr.heap.size) (fun _ s _ => T - (intOf s).toNat)
  case atStart =>
    refine ⟨0, fun _ => 0, Nat.zero_le _, rfl, ZM.empty _ (Blk.new' _ (by simp)) (Nat.le_refl _), (((Blk.new w 30 _).drewN nq).alloc _), ⟨_, _, rfl⟩, ?_, by (first | omega | (simp only [World.size_alloc, World.size_setCell, World.size_drew]; omega) | (simp; omega) | (simp; done))⟩
    show Below _ _ _
    (repeat' (first | (with_reducible exact Below.refl _ _) | (with_reducible assumption) | (with_reducible refine Below.alloc ?_ ?_ _) | (with_reducible refine Below.drew ?_) | (with_reducible refine below_drewN ?_ _) | (with_reducible refine Below.setCell ?_ ?_ _) | (with_reducible refine Below.trans ?_ (Below.mono (by assumption) ?_)) | (first | omega | (simp only [World.size_alloc, World.size_setCell, World.size_drew]; omega) | (simp; omega) | (simp; done))))
  case round =>
    obtain ⟨k, R, hk, rfl, HZ, HK, ⟨g, c', rfl⟩, Hbel, hsz⟩ := hrel
    have k00 := HK.out.cellAt 0 _ rfl
    have k01 := HK.out.cellAt 1 _ rfl
    have wT := WT.out
    by_cases hlt : k < T
    · have hmk := Hmk.out
      have t1 : (k : Int) < T := by clear wT; omega
      have hrow := (HZ.out.keep (Below.alloc (Below.refl _ _) (Nat.le_refl _) (.cells (cI (List.replicate T 0)).toArray 2)))
      have hrow2 := (hrow.keep (Below.alloc (Below.refl _ _) (Nat.le_refl _) (.cells #[.slice (some ⟨wr.heap.size, 0, none⟩) T T] 36))).own
      clear hrow
      go_wp2_with (first
        | (at_builtin; refine wpList_append_own _ rfl _ _ 79 rfl (w.heap.size + 1) 36 iL (.slice none 0 0) 1 24 Try.underlying79 hiL hzL0 hzL1 hzL2 rfl (by decide) _ _ _ rfl hrow2 ⟨wr.heap.size + 1, 0, none⟩ 1 1 [.slice (some ⟨wr.heap.size, 0, none⟩) T T] rfl rfl ?c1 ?c2 ?c3 ?c4 ?c5 ?_))
      case c1 =>
        intro j u hj
        match j, hj with
        | 0, hj => simp at hj; subst hj; simp [Addr.add]
      case c2 => intro u hu; simp at hu; subst hu; rfl
      case c3 => clear wT; unfold maxLen; omega
      case c4 => clear wT; omega
      case c5 => clear wT; simp; omega
      clear wT
      intro v' w3 hown' hgrow _
      have hz3 := HZ.out.step hsz (w2 := ((wr.alloc (.cells (cI (List.replicate T 0)).toArray 2)).alloc (.cells #[.slice (some ⟨wr.heap.size, 0, none⟩) T T] 36))) (Below.alloc (Below.refl _ _) (by simp) _) (by simp) hown' hgrow
      have hb3 : Below (w.heap.size + 1) wr w3 := (((Below.refl _ wr).alloc hsz _).alloc (by simp; omega) _).trans (own_grown_below (Below.refl _ _) hrow2 hgrow (by simp; omega))
      have Hb4 : Hid (Below w.heap.size w w3) := Hbel.out.trans (hb3.mono (by omega))
      have hs3 := hb3.size
      have K3 := HK.out.below hb3 (by omega)
      obtain ⟨A', c2, rfl⟩ := own_form hz3.own
      obtain ⟨g3, rfl⟩ : ∃ g3, A' = some ⟨g3, 0, none⟩ := by
        rcases hz3.own.2 with ⟨_, h⟩ | ⟨g3, cap, cur, hv, _⟩
        · omega
        · injection hv with hv _ _; exact ⟨g3, hv⟩
      have H3 := Lib.hid hz3; have HK3 := Lib.hid K3
      clear hown' hgrow hz3 hrow2 hb3 K3 HZ HK k00 k01 hmk t1
      go_wp2
      refine ⟨⟨k + 1, _, by omega, by go_num, H3, HK3, ⟨_, _, rfl⟩, Hb4, by omega⟩, by simp [intOf]; omega⟩
    · obtain rfl : k = T := by clear wT; omega
      have t1 : ¬ ((k : Int) < k) := by clear wT; omega
      have HM : Hid (Mat wr g 0 k k R (fun _ _ => 0)) := HZ.out.mat hT2
      have Hrel : Hid (RelP k (fun _ _ => 0) (nearT N es 0 0)) := fun i j _ _ => ⟨.inl rfl, fun h => by simp at h, fun h => absurd h (nearT_zero N es i j)⟩
      have HRge := Lib.hid HZ.out.ge
      clear HZ Hmk
      go_wp2_with fail
      clear wT t1
      have HRlt : Hid (∀ i, i < k → w.heap.size < R i) := fun i hi => by have := HRge.out i hi; omega
      clear HRge
      go_loopw [9] (fun s wo => ∃ (e : Nat) (M : Nat → Nat → Int), e ≤ L ∧ s = .int .i64 e ∧ Hid (Mat wo g 0 k k R M) ∧ Hid (RelP k M (nearT N es e 0)) ∧ Hid (Blk wo w.heap.size 30 #[.int .i64 N, .slice A L c]) ∧ Hid (Below w.heap.size w wo)) (fun s _ => L - (intOf s).toNat)
      case atStart => exact ⟨0, _, Nat.zero_le _, rfl, HM, Hrel, HK, Hbel⟩
      case round =>
        clear HM HK hsz k00 k01 Hbel Hrel
        obtain ⟨e, M, he, rfl, HM, Hrel, HK, Hbel⟩ := hrel
        obtain ⟨wo, rfl⟩ : ∃ wo : World, wo = wr := ⟨_, rfl⟩
        by_cases hlt2 : e < L
        · obtain ⟨re, Hre2⟩ : ∃ re, Hid (N + e = re) := ⟨_, rfl⟩
          have hreT : re < k := by have := Hre2.out; have := hT.out; omega
          have We : Hid (wrap64 ((N : Int) + (e : Int)) = (re : Int)) := by show _ = _; rw [← Hre2.out]; exact wrapS _ _ (by have := HN2.out; omega)
          have WeK : Hid (IntKind.i64.wrap ((N : Int) + (e : Int)) = (re : Int)) := by show _ = _; rw [← Hre2.out]; exact wrapK _ _ (by have := HN2.out; omega)
          go_wp2_with fail
          go_loopw [10] (fun s wi => ∃ (f : Nat) (M : Nat → Nat → Int), f ≤ e ∧ s = .int .i64 f ∧ Hid (Mat wi g 0 k k R M) ∧ Hid (RelP k M (nearT N es e f)) ∧ Hid (Blk wi w.heap.size 30 #[.int .i64 N, .slice A L c]) ∧ Hid (Below w.heap.size w wi)) (fun s _ => e - (intOf s).toNat)
          case atStart => exact ⟨0, M, Nat.zero_le _, rfl, HM, Hrel, HK, Hbel⟩
          case round =>
            clear HM HK Hbel Hrel M
            obtain ⟨f, M, hf, rfl, HM, Hrel, HK, Hbi⟩ := hrel
            have k00 := HK.out.cellAt 0 _ rfl
            have k01 := HK.out.cellAt 1 _ rfl
            have hKlt := HK.out.lt
            by_cases hlt3 : f < e
            · obtain ⟨rf, Hrf⟩ : ∃ rf, Hid (N + f = rf) := ⟨_, rfl⟩
              have hrfT : rf < k := by have := Hrf.out; have := hT.out; omega
              have hne0 : re ≠ rf := by have := Hrf.out; have := Hre2.out; omega
              have Wf : Hid (wrap64 ((N : Int) + (f : Int)) = (rf : Int)) := by show _ = _; rw [← Hrf.out]; exact wrapS _ _ (by have := HN2.out; omega)
              have WfK : Hid (IntKind.i64.wrap ((N : Int) + (f : Int)) = (rf : Int)) := by show _ = _; rw [← Hrf.out]; exact wrapK _ _ (by have := HN2.out; omega)
              obtain ⟨q1, h1⟩ : ∃ q, Hid (nearAre es e f = q) := ⟨_, rfl⟩
              have c1 := fun W hW => Cn.out e f (by have := HL.out; omega) (by have := HL.out; omega) W hW q1 h1
              go_wp2_with fail
              refine (c1 _ Hbi.out).mono ?_
              rintro e' w2 ⟨rfl, hb2⟩
              have HM2 := Lib.hid (HM.out.keep hb2)
              have HK2 := Lib.hid (HK.out.below hb2 hKlt)
              have HB2 : Hid (Below w.heap.size w w2) := Hbi.out.trans (hb2.mono Hbi.out.size)
              clear k00 k01 HM HK Hbi hb2 c1
              cases q1
              · go_wp2
                refine ⟨⟨f + 1, M, by omega, by go_num, HM2, Hrel.out.iff (fun i j _ _ => nearT_no h1.out), HK2, HB2⟩, by simp [intOf]; omega⟩
              · have he0 := HM2.out.head re hreT
                have hf0 := HM2.out.head rf hrfT
                have a0 := HM2.out.cell re hreT rf hrfT
                have a1 := HM2.out.free re hreT rf
                have b0 := HM2.out.cell rf hrfT re hreT
                have b1 := HM2.out.free rf hrfT re
                rw [Nat.zero_add] at he0 hf0
                have hRR : R re ≠ R rf := fun h => hne0 (HM2.out.apart re rf hreT hrfT h)
                have hRR2 : R rf ≠ R re := Ne.symm hRR
                obtain ⟨ie, ie2, ie3⟩ := idxF re k hreT
                obtain ⟨jf, jf2, jf3⟩ := idxF rf k hrfT
                have weK := WeK.out
                have wfK := WfK.out
                go_wp2
                go_quiet (fail)
                rename_i nq2
                have we : Value.int .i64 (wrap64 ((N : Int) + (e : Int))) = Value.int .i64 (re : Int) := by rw [We.out]
                have wf : Value.int .i64 (wrap64 ((N : Int) + (f : Int))) = Value.int .i64 (rf : Int) := by rw [Wf.out]
                clear hne0 hRR2
                clear weK wfK
                go_wp2
                clear he0 hf0 a0 a1 b0 b1 ie ie2 ie3 jf jf2 jf3 we wf
                have hRe := HRlt.out re hreT
                have hRf := HRlt.out rf hrfT
                refine ⟨⟨f + 1, _, by omega, by go_num, (((HM2.out.keep (below_drewN (Below.refl _ _) _)).set (i := re) (j := rf) hreT hrfT 1).set (i := rf) (j := re) hrfT hreT 1), ?_, ?_, ?_⟩, by simp [intOf]; omega⟩
                · refine ((Hrel.out.put re rf).put rf re).iff fun i j hji _ => ?_
                  rw [← Hre2.out, ← Hrf.out]
                  exact nearT_yes hlt3 hji h1.out
                · exact (((HK2.out.drewN _).far (by show _ ≠ R re; omega) _).far (by show _ ≠ R rf; omega) _)
                · exact ((below_drewN HB2.out _).setCell (by show _ ≤ R re; omega) _).setCell (by show _ ≤ R rf; omega) _
            · obtain rfl : f = e := by omega
              obtain ⟨wi, rfl⟩ : ∃ wi : World, wi = wr := ⟨_, rfl⟩
              obtain ⟨x, y, hxy, hx, hy⟩ := Hin.out f (by have := HL.out; omega)
              have Hxy := Lib.hid hxy; clear hxy
              have hxT : x < k := by have := hT.out; omega
              have hyT : y < k := by have := hT.out; omega
              go_wp2_with fail
              go_loopw [13] (fun s w4 => ∃ (r : Int) (M : Nat → Nat → Int), (r = 0 ∨ r = 1 ∨ r = 2) ∧ s = .int .i64 r ∧ Hid (Mat w4 g 0 k k R M) ∧ Hid (RelP k M (roundT N es f x y r)) ∧ Hid (Blk w4 w.heap.size 30 #[.int .i64 N, .slice A L c]) ∧ Hid (Below w.heap.size w w4)) (fun s _ => 2 - (intOf s).toNat)
              case atStart =>
                refine ⟨0, M, .inl rfl, rfl, HM, ?_, HK, Hbi⟩
                refine Hrel.out.iff fun i j _ _ => ?_
                unfold roundT
                simp
              case round =>
                clear HM HK Hbi Hrel M k00 k01 hKlt
                obtain ⟨r, M, hr3, rfl, HM, Hrel, HK, Hb⟩ := hrel
                have k00 := HK.out.cellAt 0 _ rfl
                have k01 := HK.out.cellAt 1 _ rfl
                rcases hr3 with rfl | rfl | rfl
                · obtain ⟨b, off, rfl, hb, hc⟩ := (Hre.out wr Hb.out).pos (by have := HL.out; omega)
                  obtain ⟨hc0, hc1⟩ := hc f (by have := HL.out; omega)
                  rw [Hxy.out] at hc0 hc1
                  dsimp only at hc0 hc1
                  clear hc
                  have hx0 := HM.out.head x hxT
                  have he0 := HM.out.head re hreT
                  have a0 := HM.out.cell x hxT y hyT
                  have a1 := HM.out.free x hxT y
                  have b0 := HM.out.cell x hxT re hreT
                  have b1 := HM.out.free x hxT re
                  have d0 := HM.out.cell re hreT x hxT
                  have d1 := HM.out.free re hreT x
                  rw [Nat.zero_add] at hx0 he0
                  have hne0 : x ≠ re := by have := Hre2.out; omega
                  have hne1 : y ≠ re := by have := Hre2.out; omega
                  have hne2 : re ≠ y := Ne.symm hne1
                  have hRR : R x ≠ R re := fun h => hne0 (HM.out.apart x re hxT hreT h)
                  have hRR2 : R re ≠ R x := Ne.symm hRR
                  obtain ⟨ie, ie2, ie3⟩ := idxF re k hreT
                  obtain ⟨jx, jx2, jx3⟩ := idxF x k hxT
                  obtain ⟨jy, jy2, jy3⟩ := idxF y k hyT
                  obtain ⟨jf, jf2, jf3⟩ := idxF f L hlt2
                  go_wp2
                  go_quiet (fail)
                  have weK := WeK.out
                  go_wp2
                  go_quiet (fail)
                  have we : Value.int .i64 (wrap64 ((N : Int) + (f : Int))) = Value.int .i64 (re : Int) := by rw [We.out]
                  clear weK
                  go_wp2
                  clear hx0 he0 a0 a1 b0 b1 d0 d1 ie ie2 ie3 jx jx2 jx3 jy jy2 jy3 jf jf2 jf3 we hc0 hc1
                  have hRe := HRlt.out re hreT
                  have hRx := HRlt.out x hxT
                  refine ⟨⟨0 + 1, _, by omega, by go_num, ((((HM.out.keep (below_drewN (Below.refl _ _) _)).set (i := x) (j := y) hxT hyT 1).set (i := x) (j := re) hxT hreT 1).set (i := re) (j := x) hreT hxT 1), ?_, ?_, ?_⟩, by simp [intOf]⟩
                  · refine (((Hrel.out.put x y).put x re).put re x).iff fun i j hji _ => ?_
                    rw [← Hre2.out]
                    unfold roundT
                    simp [or_assoc]
                  · exact (((HK.out.drewN _).far (by show _ ≠ R x; omega) _).far (by show _ ≠ R x; omega) _).far (by show _ ≠ R re; omega) _
                  · exact ((((below_drewN Hb.out _).setCell (by show _ ≤ R x; omega) _).setCell (by show _ ≤ R x; omega) _).setCell (by show _ ≤ R re; omega) _)
                · obtain ⟨b, off, rfl, hb, hc⟩ := (Hre.out wr Hb.out).pos (by have := HL.out; omega)
                  obtain ⟨hc0, hc1⟩ := hc f (by have := HL.out; omega)
                  rw [Hxy.out] at hc0 hc1
                  dsimp only at hc0 hc1
                  clear hc
                  have hx0 := HM.out.head y hyT
                  have he0 := HM.out.head re hreT
                  have a0 := HM.out.cell y hyT x hxT
                  have a1 := HM.out.free y hyT x
                  have b0 := HM.out.cell y hyT re hreT
                  have b1 := HM.out.free y hyT re
                  have d0 := HM.out.cell re hreT y hyT
                  have d1 := HM.out.free re hreT y
                  rw [Nat.zero_add] at hx0 he0
                  have hne0 : y ≠ re := by have := Hre2.out; omega
                  have hne1 : x ≠ re := by have := Hre2.out; omega
                  have hne2 : re ≠ x := Ne.symm hne1
                  have hRR : R y ≠ R re := fun h => hne0 (HM.out.apart y re hyT hreT h)
                  have hRR2 : R re ≠ R y := Ne.symm hRR
                  obtain ⟨ie, ie2, ie3⟩ := idxF re k hreT
                  obtain ⟨jx, jx2, jx3⟩ := idxF y k hyT
                  obtain ⟨jy, jy2, jy3⟩ := idxF x k hxT
                  obtain ⟨jf, jf2, jf3⟩ := idxF f L hlt2
                  go_wp2
                  go_quiet (fail)
                  have weK := WeK.out
                  go_wp2
                  go_quiet (fail)
                  have we : Value.int .i64 (wrap64 ((N : Int) + (f : Int))) = Value.int .i64 (re : Int) := by rw [We.out]
                  clear weK
                  go_wp2
                  clear hx0 he0 a0 a1 b0 b1 d0 d1 ie ie2 ie3 jx jx2 jx3 jy jy2 jy3 jf jf2 jf3 we hc0 hc1
                  have hRe := HRlt.out re hreT
                  have hRx := HRlt.out y hyT
                  refine ⟨⟨1 + 1, _, by omega, by go_num, ((((HM.out.keep (below_drewN (Below.refl _ _) _)).set (i := y) (j := x) hyT hxT 1).set (i := y) (j := re) hyT hreT 1).set (i := re) (j := y) hreT hyT 1), ?_, ?_, ?_⟩, by simp [intOf]⟩
                  · refine (((Hrel.out.put y x).put y re).put re y).iff fun i j hji _ => ?_
                    rw [← Hre2.out]
                    unfold roundT
                    simp [or_assoc]
                  · exact (((HK.out.drewN _).far (by show _ ≠ R y; omega) _).far (by show _ ≠ R y; omega) _).far (by show _ ≠ R re; omega) _
                  · exact ((((below_drewN Hb.out _).setCell (by show _ ≤ R y; omega) _).setCell (by show _ ≤ R y; omega) _).setCell (by show _ ≤ R re; omega) _)
                · clear k00 k01
                  go_wp2
                  refine ⟨⟨f + 1, M, by omega, by go_num, HM, ?_, HK, Hb⟩, by simp [intOf]; omega⟩
                  exact Hrel.out.iff fun i j hji _ => roundT_all (by have := HL.out; omega) hx hy Hxy.out hji
        · obtain rfl : e = L := by omega
          go_wp2
          go_ret
          refine ⟨_, _, R, M, rfl, HM.out, ?_, Hbel.out⟩
          first | exact Hrel.out | (rw [HL.out]; exact Hrel.out)
end Go.Proofs.Ytkpnplldnihalaa
