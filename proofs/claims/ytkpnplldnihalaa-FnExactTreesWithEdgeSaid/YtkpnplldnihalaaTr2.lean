/- The number of the spanning trees: the reference's l09Trees. -/
import Derived.Test.YtkpnplldnihalaaTr1
namespace Go.Proofs.Ytkpnplldnihalaa
open Go.RowKit
set_option linter.unusedSimpArgs false
set_option linter.unusedVariables false
set_option maxRecDepth 20000

/-- The matrix without the first row and column. -/
def lapS (es : List (Int × Int)) (k : Nat) : Nat → Nat → Int := fun i j => lapTo es k (i + 1) (j + 1)
theorem lapS_ij {es : List (Int × Int)} {k i j : Nat} (h : es.getD k (0, 0) = (((i + 1 : Nat) : Int), ((j + 1 : Nat) : Int))) : incM (incM (incM (incM (lapS es k) i i 1) i j (-1)) j j 1) j i (-1) = lapS es (k + 1) := by
  funext a b
  simp only [lapS, lapTo, h, cLap, incM, Int.toNat_natCast, Nat.add_right_cancel_iff]
  omega
theorem lapS_0j {es : List (Int × Int)} {k j : Nat} (h : es.getD k (0, 0) = (((0 : Nat) : Int), ((j + 1 : Nat) : Int))) : incM (lapS es k) j j 1 = lapS es (k + 1) := by
  funext a b
  simp only [lapS, lapTo, h, cLap, incM, Int.toNat_natCast, Nat.add_right_cancel_iff]
  have n1 : ¬ (a + 1 = 0) := by omega
  have n2 : ¬ (b + 1 = 0) := by omega
  simp [n1, n2]
theorem lapS_i0 {es : List (Int × Int)} {k i : Nat} (h : es.getD k (0, 0) = (((i + 1 : Nat) : Int), ((0 : Nat) : Int))) : incM (lapS es k) i i 1 = lapS es (k + 1) := by
  funext a b
  simp only [lapS, lapTo, h, cLap, incM, Int.toNat_natCast, Nat.add_right_cancel_iff]
  have n1 : ¬ (a + 1 = 0) := by omega
  have n2 : ¬ (b + 1 = 0) := by omega
  simp [n1, n2]
theorem lapS_00 {es : List (Int × Int)} {k : Nat} (h : es.getD k (0, 0) = (((0 : Nat) : Int), ((0 : Nat) : Int))) : lapS es k = lapS es (k + 1) := by
  funext a b
  simp only [lapS, lapTo, h, cLap, Int.toNat_natCast]
  have n1 : ¬ (a + 1 = 0) := by omega
  have n2 : ¬ (b + 1 = 0) := by omega
  simp [n1, n2]
theorem own_ge {w : World} {base : Nat} {e : TypeId} {size n c g : Nat} {xs : List Value} (h : w.ownsRow base e size (.slice (some ⟨g, 0, none⟩) n c) n xs) : base ≤ g := by
  rcases h.2 with ⟨h1, _⟩ | ⟨g', cap, cur, hv, hge, _⟩
  · cases h1
  · injection hv with h1 _ _
    injection h1 with h1
    injection h1 with h1 _ _
    omega

set_option maxHeartbeats 8000000 in
theorem l09Trees_b (n m : Nat) (A : Option Addr) (c : Nat) (es : List (Int × Int)) (w : World) (r : Int) (hr0 : Hid (treesV n es = r)) (hnm : n = m + 1) (hm1 : 1 ≤ m) (hn : n ≤ 1000) (hl : es.length ≤ 10000) (hin : InN n es) (hr : RdE w A es) :
    Calls Try.prog 46 #[.int .i64 n, .slice A es.length c] w fun e w' => e = .returned (.int .i64 r) ∧ Below w.heap.size w w' := by
  obtain ⟨iL, hiL, hzL0, hzL1, hzL2⟩ := info_parts infoL
  have hmk := mk_row Try.underlying36 infoI m (by omega) (by omega)
  simp only [made_int] at hmk
  have hfin : Hid (detF 0 m m 0 (lapS es es.length) 1 1 = r) := by show _ = _; rw [← hr0.out, treesV, hnm, Nat.add_sub_cancel]; rfl
  clear hr0
  have hmm : m ≤ 1000 := by omega
  have Hin := Lib.hid hin; clear hin
  obtain ⟨x, Hx⟩ : ∃ x : Int, Hid ((n : Int) = x) := ⟨_, rfl⟩
  rw [Hx.out]
  have hx1 : Hid (x = (m : Int) + 1) := by show _ = _; rw [← Hx.out]; omega
  clear Hx
  have hw0 : wrap64 (x - 1) = (m : Int) := by rw [hx1.out, wrap64_small (by omega) (by omega)]; omega
  have Hnm := Lib.hid hnm; clear hnm hn
  have hre := fun W (hW : Below w.heap.size w W) => hr.below hW
  clear hr
  generalize hm : es.length = L at *
  have Hm := Lib.hid hm; clear hm
  go_enter Try.func46, Try.ntmps46
  go_wp2
  go_loopw [5, 6] (fun v s wr => ∃ (k : Nat) (R : Nat → Nat), k ≤ m ∧ s = .int .i64 ((k : Int) + 1) ∧ Hid (ZM wr w.heap.size v k m R) ∧ (∃ g c', v = .slice (some ⟨g, 0, none⟩) k c') ∧ Below w.heap.size w wr) (fun _ s _ => m + 1 - (intOf s).toNat)
  case atStart =>
    exact ⟨0, fun _ => 0, Nat.zero_le _, rfl, ZM.empty _ (Blk.new _ _ _) (Nat.le_refl _), ⟨_, _, rfl⟩, by (repeat' (first | (with_reducible exact Below.refl _ _) | (with_reducible assumption) | (with_reducible refine Below.alloc ?_ ?_ _) | (with_reducible refine Below.drew ?_) | (with_reducible refine below_drewN ?_ _) | (with_reducible refine Below.setCell ?_ ?_ _) | (with_reducible refine Below.trans ?_ (Below.mono (by assumption) ?_)) | (first | omega | (simp only [World.size_alloc, World.size_setCell, World.size_drew]; omega) | (simp; omega) | (simp; done))))⟩
  case round =>
    obtain ⟨k, R, hk, rfl, HZ, ⟨g, c', rfl⟩, hbel⟩ := hrel
    have hsz := hbel.size
    by_cases hlt : k < m
    · have t1 : (k : Int) + 1 < x := by have := hx1.out; omega
      have hrow := (HZ.out.keep (Below.alloc (Below.refl _ _) (Nat.le_refl _) (.cells (cI (List.replicate m 0)).toArray 2)))
      have hrow2 := (hrow.keep (Below.alloc (Below.refl _ _) (Nat.le_refl _) (.cells #[.slice (some ⟨wr.heap.size, 0, none⟩) m m] 36))).own
      clear hrow
      go_wp2_with (first
        | (at_builtin; refine wpList_append_own _ rfl _ _ 79 rfl w.heap.size 36 iL (.slice none 0 0) 1 24 Try.underlying79 hiL hzL0 hzL1 hzL2 rfl (by decide) _ _ _ rfl hrow2 ⟨wr.heap.size + 1, 0, none⟩ 1 1 [.slice (some ⟨wr.heap.size, 0, none⟩) m m] rfl rfl ?c1 ?c2 ?c3 ?c4 ?c5 ?_))
      case c1 =>
        intro j u hj
        match j, hj with
        | 0, hj => simp at hj; subst hj; simp [Addr.add]
      case c2 => intro u hu; simp at hu; subst hu; rfl
      case c3 => clear hw0; unfold maxLen; omega
      case c4 => clear hw0; omega
      case c5 => clear hw0; simp; omega
      intro v' w3 hown' hgrow _
      clear t1
      have hz3 := HZ.out.step hsz (w2 := ((wr.alloc (.cells (cI (List.replicate m 0)).toArray 2)).alloc (.cells #[.slice (some ⟨wr.heap.size, 0, none⟩) m m] 36))) (Below.alloc (Below.refl _ _) (by simp) _) (by simp) hown' hgrow
      have hb3 : Below w.heap.size wr w3 := (((Below.refl _ wr).alloc hsz _).alloc (by simp; omega) _).trans (own_grown_below (Below.refl _ _) hrow2 hgrow (by simp; omega))
      have hb4 : Below w.heap.size w w3 := hbel.trans hb3
      obtain ⟨A', c2, rfl⟩ := own_form hz3.own
      obtain ⟨g3, rfl⟩ : ∃ g3, A' = some ⟨g3, 0, none⟩ := by
        rcases hz3.own.2 with ⟨_, h⟩ | ⟨g3, cap, cur, hv, _⟩
        · omega
        · injection hv with hv _ _; exact ⟨g3, hv⟩
      have H3 := Lib.hid hz3
      clear hown' hgrow hz3 hrow2 hb3 HZ
      go_wp2
      refine ⟨⟨k + 1, _, by omega, by go_num, H3, ⟨_, _, rfl⟩, hb4⟩, by clear hw0; simp [intOf]; omega⟩
    · obtain rfl : k = m := by omega
      have t1 : ¬ ((k : Int) + 1 < x) := by have := hx1.out; omega
      have HM : Hid (Mat wr g 0 k k R (lapS es 0)) := (HZ.out.mat (by omega)).eq_ (fun i j _ _ => rfl)
      have HRge : Hid (∀ i, i < k → w.heap.size ≤ R i) := HZ.out.ge
      have Hg : Hid (w.heap.size ≤ g) := own_ge HZ.out.own
      clear HZ hmk
      go_wp2_with fail
      clear t1 hw0 hsz
      go_loopw [7] (fun s wi => ∃ e : Nat, e ≤ L ∧ s = .int .i64 e ∧ Hid (Mat wi g 0 k k R (lapS es e)) ∧ Below w.heap.size w wi) (fun s _ => L - (intOf s).toNat)
      case atStart => exact ⟨0, Nat.zero_le _, rfl, HM, hbel⟩
      case round =>
        clear HM hbel
        obtain ⟨e, he, rfl, HM, hbel⟩ := hrel
        by_cases hlt2 : e < L
        · obtain ⟨b, off, rfl, hb, hc⟩ := (hre wr hbel).pos (by have := Hm.out; omega)
          obtain ⟨hc0, hc1⟩ := hc e (by have := Hm.out; omega)
          obtain ⟨p, q, hxy, hp, hq⟩ := Hin.out e (by have := Hm.out; omega)
          rw [hxy] at hc0 hc1
          dsimp only at hc0 hc1
          clear hc
          obtain ⟨ee, ee2, ee3⟩ := idxF e L hlt2
          generalize hxI : (p : Int) = xI at hc0
          generalize hyI : (q : Int) = yI at hc1
          have hnm := Hnm.out
          rcases p with _ | i
          · rcases q with _ | j
            · have wx : IntKind.i64.wrap (xI - 1) = -1 := by rw [← hxI]; rfl
              have wy : IntKind.i64.wrap (yI - 1) = -1 := by rw [← hyI]; rfl
              clear hxI hyI hp hq hnm
              have Hlap := Lib.hid (lapS_00 (es := es) (k := e) hxy)
              clear hxy
              go_wp2_with fail
              go_quiet (fail)
              rename_i nq
              have HMq := Lib.hid (HM.out.keep (below_drewN (Below.refl _ _) nq))
              have bW := below_drewN hbel nq
              have HBd : Hid (BdM (lapS es e) (2 * (e : Int))) := fun a b => lapTo_bd es e _ _
              clear HM hbel hc0 hc1 wx wy
              have HM := HMq
              clear HMq
              generalize wr.drewN nq = W1 at *
              go_wp2
              rw [Hlap.out] at HM
              refine ⟨⟨e + 1, by omega, by go_num, HM, bW⟩, by simp [intOf]; omega⟩
            · have wx : IntKind.i64.wrap (xI - 1) = -1 := by rw [← hxI]; rfl
              have wy : IntKind.i64.wrap (yI - 1) = (j : Int) := by rw [← hyI, IntWalk.i64_in _ (by omega)]; omega
              have hj : j < k := by omega
              clear hxI hyI hp hq hnm
              have Hlap := Lib.hid (lapS_0j (es := es) (k := e) hxy)
              clear hxy
              go_wp2_with fail
              go_quiet (fail)
              rename_i nq
              have HMq := Lib.hid (HM.out.keep (below_drewN (Below.refl _ _) nq))
              have bW := below_drewN hbel nq
              have HBd : Hid (BdM (lapS es e) (2 * (e : Int))) := fun a b => lapTo_bd es e _ _
              clear HM hbel hc0 hc1 wx wy
              have HM := HMq
              clear HMq
              generalize wr.drewN nq = W1 at *
              have gi := HM.out.head j hj
              rw [Nat.zero_add] at gi
              obtain ⟨ej, ej2, ej3⟩ := idxF j k hj
              have cc := HM.out.cell j hj j hj
              have ff := HM.out.free j hj j
              obtain ⟨v, Hv⟩ : ∃ v, Hid ((lapS es e) j j = v) := ⟨_, rfl⟩
              rw [Hv.out] at cc
              go_wp2
              clear cc ff gi
              have hM' := (HM.out.inc hj hj HBd.out (by omega))
              rw [Hv.out] at hM'
              have bW' := (bW.setCell (p := ⟨R j, j, none⟩) (by have := HRge.out j hj; show w.heap.size ≤ R j; omega) (.int .i64 (wrap64 (v + 1))))
              have hB' := HBd.out.inc j j (d := 1) (by omega)
              clear HM bW HBd Hv
              have HM := Lib.hid hM'; have bW := bW'; have HBd := Lib.hid hB'
              clear hM' bW' hB'
              generalize W1.setCell ⟨R j, j, none⟩ (.int .i64 (wrap64 (v + 1))) = W2 at *
              generalize incM (lapS es e) j j 1 = M2 at *
              rw [Hlap.out] at HM
              refine ⟨⟨e + 1, by omega, by go_num, HM, bW⟩, by simp [intOf]; omega⟩
          · rcases q with _ | j
            · have wx : IntKind.i64.wrap (xI - 1) = (i : Int) := by rw [← hxI, IntWalk.i64_in _ (by omega)]; omega
              have wy : IntKind.i64.wrap (yI - 1) = -1 := by rw [← hyI]; rfl
              have hi : i < k := by omega
              clear hxI hyI hp hq hnm
              have Hlap := Lib.hid (lapS_i0 (es := es) (k := e) hxy)
              clear hxy
              go_wp2_with fail
              go_quiet (fail)
              rename_i nq
              have HMq := Lib.hid (HM.out.keep (below_drewN (Below.refl _ _) nq))
              have bW := below_drewN hbel nq
              have HBd : Hid (BdM (lapS es e) (2 * (e : Int))) := fun a b => lapTo_bd es e _ _
              clear HM hbel hc0 hc1 wx wy
              have HM := HMq
              clear HMq
              generalize wr.drewN nq = W1 at *
              have gi := HM.out.head i hi
              rw [Nat.zero_add] at gi
              obtain ⟨ei, ei2, ei3⟩ := idxF i k hi
              have cc := HM.out.cell i hi i hi
              have ff := HM.out.free i hi i
              obtain ⟨v, Hv⟩ : ∃ v, Hid ((lapS es e) i i = v) := ⟨_, rfl⟩
              rw [Hv.out] at cc
              go_wp2
              clear cc ff gi
              have hM' := (HM.out.inc hi hi HBd.out (by omega))
              rw [Hv.out] at hM'
              have bW' := (bW.setCell (p := ⟨R i, i, none⟩) (by have := HRge.out i hi; show w.heap.size ≤ R i; omega) (.int .i64 (wrap64 (v + 1))))
              have hB' := HBd.out.inc i i (d := 1) (by omega)
              clear HM bW HBd Hv
              have HM := Lib.hid hM'; have bW := bW'; have HBd := Lib.hid hB'
              clear hM' bW' hB'
              generalize W1.setCell ⟨R i, i, none⟩ (.int .i64 (wrap64 (v + 1))) = W2 at *
              generalize incM (lapS es e) i i 1 = M2 at *
              rw [Hlap.out] at HM
              refine ⟨⟨e + 1, by omega, by go_num, HM, bW⟩, by simp [intOf]; omega⟩
            · have wx : IntKind.i64.wrap (xI - 1) = (i : Int) := by rw [← hxI, IntWalk.i64_in _ (by omega)]; omega
              have wy : IntKind.i64.wrap (yI - 1) = (j : Int) := by rw [← hyI, IntWalk.i64_in _ (by omega)]; omega
              have hi : i < k := by omega
              have hj : j < k := by omega
              clear hxI hyI hp hq hnm
              have Hlap := Lib.hid (lapS_ij (es := es) (k := e) hxy)
              clear hxy
              go_wp2_with fail
              go_quiet (fail)
              rename_i nq
              have HMq := Lib.hid (HM.out.keep (below_drewN (Below.refl _ _) nq))
              have bW := below_drewN hbel nq
              have HBd : Hid (BdM (lapS es e) (2 * (e : Int))) := fun a b => lapTo_bd es e _ _
              clear HM hbel hc0 hc1 wx wy
              have HM := HMq
              clear HMq
              generalize wr.drewN nq = W1 at *
              have gi := HM.out.head i hi
              rw [Nat.zero_add] at gi
              obtain ⟨ei, ei2, ei3⟩ := idxF i k hi
              obtain ⟨ej, ej2, ej3⟩ := idxF j k hj
              go_upto_region 12 with fail
              clear gi
              have cc := HM.out.cell i hi i hi
              have ff := HM.out.free i hi i
              obtain ⟨v, Hv⟩ : ∃ v, Hid ((lapS es e) i i = v) := ⟨_, rfl⟩
              rw [Hv.out] at cc
              go_upto_region 14 with fail
              clear cc ff
              have hM' := (HM.out.inc hi hi HBd.out (by omega))
              rw [Hv.out] at hM'
              have bW' := (bW.setCell (p := ⟨R i, i, none⟩) (by have := HRge.out i hi; show w.heap.size ≤ R i; omega) (.int .i64 (wrap64 (v + 1))))
              have hB' := HBd.out.inc i i (d := 1) (by omega)
              clear HM bW HBd Hv
              have HM := Lib.hid hM'; have bW := bW'; have HBd := Lib.hid hB'
              clear hM' bW' hB'
              generalize W1.setCell ⟨R i, i, none⟩ (.int .i64 (wrap64 (v + 1))) = W2 at *
              generalize incM (lapS es e) i i 1 = M2 at *
              have cc := HM.out.cell i hi j hj
              have ff := HM.out.free i hi j
              obtain ⟨v, Hv⟩ : ∃ v, Hid (M2 i j = v) := ⟨_, rfl⟩
              rw [Hv.out] at cc
              go_upto_region 16 with fail
              clear cc ff
              have hM' := (HM.out.dec hi hj HBd.out (by omega))
              rw [Hv.out] at hM'
              have bW' := (bW.setCell (p := ⟨R i, j, none⟩) (by have := HRge.out i hi; show w.heap.size ≤ R i; omega) (.int .i64 (wrap64 (v - 1))))
              have hB' := HBd.out.inc i j (d := (-1)) (by omega)
              clear HM bW HBd Hv
              have HM := Lib.hid hM'; have bW := bW'; have HBd := Lib.hid hB'
              clear hM' bW' hB'
              generalize W2.setCell ⟨R i, j, none⟩ (.int .i64 (wrap64 (v - 1))) = W3 at *
              generalize incM M2 i j (-1) = M3 at *
              have gj := HM.out.head j hj
              rw [Nat.zero_add] at gj
              go_upto_region 17 with fail
              clear gj
              have cc := HM.out.cell j hj j hj
              have ff := HM.out.free j hj j
              obtain ⟨v, Hv⟩ : ∃ v, Hid (M3 j j = v) := ⟨_, rfl⟩
              rw [Hv.out] at cc
              go_upto_region 19 with fail
              clear cc ff
              have hM' := (HM.out.inc hj hj HBd.out (by omega))
              rw [Hv.out] at hM'
              have bW' := (bW.setCell (p := ⟨R j, j, none⟩) (by have := HRge.out j hj; show w.heap.size ≤ R j; omega) (.int .i64 (wrap64 (v + 1))))
              have hB' := HBd.out.inc j j (d := 1) (by omega)
              clear HM bW HBd Hv
              have HM := Lib.hid hM'; have bW := bW'; have HBd := Lib.hid hB'
              clear hM' bW' hB'
              generalize W3.setCell ⟨R j, j, none⟩ (.int .i64 (wrap64 (v + 1))) = W4 at *
              generalize incM M3 j j 1 = M4 at *
              have cc := HM.out.cell j hj i hi
              have ff := HM.out.free j hj i
              obtain ⟨v, Hv⟩ : ∃ v, Hid (M4 j i = v) := ⟨_, rfl⟩
              rw [Hv.out] at cc
              go_wp2
              clear cc ff ei ei2 ei3 ej ej2 ej3
              have hM' := (HM.out.dec hj hi HBd.out (by omega))
              rw [Hv.out] at hM'
              have bW' := (bW.setCell (p := ⟨R j, i, none⟩) (by have := HRge.out j hj; show w.heap.size ≤ R j; omega) (.int .i64 (wrap64 (v - 1))))
              have hB' := HBd.out.inc j i (d := (-1)) (by omega)
              clear HM bW HBd Hv
              have HM := Lib.hid hM'; have bW := bW'; have HBd := Lib.hid hB'
              clear hM' bW' hB'
              generalize W4.setCell ⟨R j, i, none⟩ (.int .i64 (wrap64 (v - 1))) = W5 at *
              generalize incM M4 j i (-1) = M5 at *
              rw [Hlap.out] at HM
              refine ⟨⟨e + 1, by omega, by go_num, HM, bW⟩, by simp [intOf]; omega⟩
        · obtain rfl : e = L := by omega
          have ct := l09Det_b g 0 k c' w.heap.size R (lapS es e) wr r hfin (by omega) HM.out Hg.out (fun i hi => HRge.out i hi) hbel.size
          go_wp2_with fail
          refine ct.mono ?_
          rintro e' w2 ⟨rfl, hb2⟩
          have hsz2 := hbel.size
          go_wp2
          go_ret
          exact ⟨rfl, by (repeat' (first | (with_reducible exact Below.refl _ _) | (with_reducible assumption) | (with_reducible refine Below.alloc ?_ ?_ _) | (with_reducible refine Below.drew ?_) | (with_reducible refine below_drewN ?_ _) | (with_reducible refine Below.setCell ?_ ?_ _) | (with_reducible refine Below.trans ?_ (Below.mono (by assumption) ?_)) | (first | omega | (simp only [World.size_alloc, World.size_setCell, World.size_drew]; omega) | (simp; omega) | (simp; done))))⟩
end Go.Proofs.Ytkpnplldnihalaa
