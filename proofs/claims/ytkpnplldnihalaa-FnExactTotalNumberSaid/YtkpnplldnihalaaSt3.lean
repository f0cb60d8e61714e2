/- The reference's rows of things that need different numbers, for edges that are close: l08Rows. -/
/- The reference's IsStrong. -/
import Derived.Test.YtkpnplldnihalaaSt2
namespace Go.Proofs.Ytkpnplldnihalaa
open Go.RowKit
set_option linter.unusedSimpArgs false
set_option linter.unusedVariables false
set_option maxRecDepth 20000

/-- Which pairs the loops have met: all whose greater is below e, and those of e whose lesser is below f. -/
def metB (e f i j : Nat) : Bool := decide (i ≠ j) && (decide (max i j < e) || (decide (max i j = e) && decide (min i j < f)))
/-- The rows so far. -/
def rowsAt (rel : Nat → Nat → Bool) (e f : Nat) : Nat → Nat → Int := fun i j => if metB e f i j && rel (max i j) (min i j) then 1 else 0
theorem rowsAt_zero (rel : Nat → Nat → Bool) (i j : Nat) : rowsAt rel 0 0 i j = 0 := by simp [rowsAt, metB]
theorem rowsAt_next (rel : Nat → Nat → Bool) (e i j : Nat) : rowsAt rel e e i j = rowsAt rel (e + 1) 0 i j := by
  have : metB e e i j = metB (e + 1) 0 i j := by
    unfold metB
    by_cases h : i = j
    · simp [h]
    · have h2 : min i j < max i j := by omega
      rw [Bool.eq_iff_iff]; simp [h]; omega
  simp [rowsAt, this]
theorem rowsAt_no {rel : Nat → Nat → Bool} {e f : Nat} (hf : f < e) (h : rel e f = false) (i j : Nat) : rowsAt rel e f i j = rowsAt rel e (f + 1) i j := by
  unfold rowsAt
  by_cases h2 : max i j = e ∧ min i j = f
  · rw [h2.1, h2.2, h]; simp
  · have : metB e f i j = metB e (f + 1) i j := by
      unfold metB
      by_cases h : i = j
      · simp [h]
      · rw [Bool.eq_iff_iff]; simp [h]; omega
    rw [this]
theorem rowsAt_yes {rel : Nat → Nat → Bool} {e f : Nat} (hf : f < e) (h : rel e f = true) (i j : Nat) : putM (putM (rowsAt rel e f) e f 1) f e 1 i j = rowsAt rel e (f + 1) i j := by
  unfold putM
  by_cases h1 : i = f ∧ j = e
  · obtain ⟨rfl, rfl⟩ := h1
    have a : max i j = j := by omega
    have b : min i j = i := by omega
    simp [rowsAt, metB, a, b, h, show ¬ i = j by omega]
  · rw [if_neg h1]
    by_cases h2 : i = e ∧ j = f
    · obtain ⟨rfl, rfl⟩ := h2
      have a : max i j = i := by omega
      have b : min i j = j := by omega
      simp [rowsAt, metB, a, b, h, show ¬ i = j by omega]
    · rw [if_neg h2]
      unfold rowsAt
      have : metB e f i j = metB e (f + 1) i j := by
        unfold metB
        by_cases h : i = j
        · simp [h]
        · rw [Bool.eq_iff_iff]; simp [h]; omega
      rw [this]

set_option maxHeartbeats 8000000 in
theorem l08RowsS_b (n : Int) (A : Option Addr) (c : Nat) (es : List (Int × Int)) (w : World) (hp : 0 < es.length) (hl : es.length ≤ 1000) (hr : RdE w A es) :
    Calls Try.prog 73 #[.agg #[.int .i64 n, .slice A es.length c], .bool false] w fun e w' => ∃ g c' R, e = .returned (.slice (some ⟨g, 0, none⟩) es.length c') ∧ Mat w' g 0 es.length es.length R (rowsAt (closeAre es) es.length 0) ∧ Below w.heap.size w w' := by
  have cn := fun (i j : Nat) (hi : i < es.length) (hj : j < es.length) (W : World) (hW : Below w.heap.size w W) (q : Bool) (hq : Hid (nearAre es i j = q)) => l08Near_b n A c es i j W q hq hi hj (by omega) (hr.below hW)
  have cc := fun (i j : Nat) (hi : i < es.length) (hj : j < es.length) (W : World) (hW : Below w.heap.size w W) (q : Bool) (hq : Hid (closeAre es i j = q)) => l08Close_b n A c es i j W q hq hi hj (by omega) (hr.below hW)
  have hnc : Hid (∀ i j, nearAre es i j = true → closeAre es i j = true) := fun i j h => by unfold closeAre closeB; unfold nearAre at h; rw [h]; rfl
  obtain ⟨iL, hiL, hzL0, hzL1, hzL2⟩ := info_parts infoL
  have hmk := mk_row Try.underlying36 infoI es.length (by omega) (by omega)
  simp only [made_int] at hmk
  have hw0 : wrap64 (es.length : Int) = (es.length : Int) := wrap64_small (by omega) (by omega)
  clear hr
  generalize closeAre es = rel at *
  generalize nearAre es = nr at *
  generalize es.length = L at *
  go_enter Try.func73, Try.ntmps73
  go_wp2
  go_quiet (fail)
  rename_i nq
  go_wp2
  go_loopw [7, 8] (fun v s wr => ∃ (k : Nat) (R : Nat → Nat), k ≤ L ∧ s = .int .i64 k ∧ ZM wr (w.heap.size + 1) v k L R ∧ Blk wr w.heap.size 30 #[.int .i64 n, .slice A L c] ∧ (∃ g c', v = .slice (some ⟨g, 0, none⟩) k c') ∧ Below w.heap.size w wr ∧ w.heap.size + 1 ≤ wr.heap.size) (fun _ s _ => L - (intOf s).toNat)
  case atStart =>
    refine ⟨0, fun _ => 0, Nat.zero_le _, rfl, ZM.empty _ (Blk.new' _ (by simp)) (Nat.le_refl _), (((Blk.new w 30 _).drewN nq).alloc _), ⟨_, _, rfl⟩, by (repeat' (first | (with_reducible exact Below.refl _ _) | (with_reducible assumption) | (with_reducible refine Below.alloc ?_ ?_ _) | (with_reducible refine Below.drew ?_) | (with_reducible refine below_drewN ?_ _) | (with_reducible refine Below.setCell ?_ ?_ _) | (with_reducible refine Below.trans ?_ (Below.mono (by assumption) ?_)) | (first | omega | (simp only [World.size_alloc, World.size_setCell, World.size_drew]; omega) | (simp; omega) | (simp; done)))), by (first | omega | (simp only [World.size_alloc, World.size_setCell, World.size_drew]; omega) | (simp; omega) | (simp; done))⟩
  case round =>
    obtain ⟨k, R, hk, rfl, hZ, K, ⟨g, c', rfl⟩, hbel, hsz⟩ := hrel
    have k00 := K.cellAt 0 _ rfl
    have k01 := K.cellAt 1 _ rfl
    have HK := Lib.hid K; clear K
    have HZ := Lib.hid hZ; clear hZ
    by_cases hlt : k < L
    · have hrow := (HZ.out.keep (Below.alloc (Below.refl _ _) (Nat.le_refl _) (.cells (cI (List.replicate L 0)).toArray 2)))
      have hrow2 := (hrow.keep (Below.alloc (Below.refl _ _) (Nat.le_refl _) (.cells #[.slice (some ⟨wr.heap.size, 0, none⟩) L L] 36))).own
      clear hrow
      go_wp2_with (first
        | (at_builtin; refine wpList_append_own _ rfl _ _ 79 rfl (w.heap.size + 1) 36 iL (.slice none 0 0) 1 24 Try.underlying79 hiL hzL0 hzL1 hzL2 rfl (by decide) _ _ _ rfl hrow2 ⟨wr.heap.size + 1, 0, none⟩ 1 1 [.slice (some ⟨wr.heap.size, 0, none⟩) L L] rfl rfl ?c1 ?c2 ?c3 ?c4 ?c5 ?_))
      case c1 =>
        intro j u hj
        match j, hj with
        | 0, hj => simp at hj; subst hj; simp [Addr.add]
      case c2 => intro u hu; simp at hu; subst hu; rfl
      case c3 => unfold maxLen; omega
      case c4 => omega
      case c5 => simp; omega
      intro v' w3 hown' hgrow _
      have hz3 := HZ.out.step hsz (w2 := ((wr.alloc (.cells (cI (List.replicate L 0)).toArray 2)).alloc (.cells #[.slice (some ⟨wr.heap.size, 0, none⟩) L L] 36))) (Below.alloc (Below.refl _ _) (by simp) _) (by simp) hown' hgrow
      have hb3 : Below (w.heap.size + 1) wr w3 := (((Below.refl _ wr).alloc hsz _).alloc (by simp; omega) _).trans (own_grown_below (Below.refl _ _) hrow2 hgrow (by simp; omega))
      have hb4 : Below w.heap.size w w3 := hbel.trans (hb3.mono (by omega))
      have hs3 := hb3.size
      have K3 := HK.out.below hb3 (by omega)
      obtain ⟨A', c2, rfl⟩ := own_form hz3.own
      obtain ⟨g3, rfl⟩ : ∃ g3, A' = some ⟨g3, 0, none⟩ := by
        rcases hz3.own.2 with ⟨_, h⟩ | ⟨g3, cap, cur, hv, _⟩
        · omega
        · injection hv with hv _ _; exact ⟨g3, hv⟩
      have H3 := Lib.hid hz3; have HK3 := Lib.hid K3
      clear hown' hgrow hz3 hrow2 hb3 K3 HZ HK k00 k01
      go_wp2
      refine ⟨⟨k + 1, _, by omega, by go_num, H3.out, HK3.out, ⟨_, _, rfl⟩, hb4, by omega⟩, by simp [intOf]; omega⟩
    · obtain rfl : k = L := by omega
      have HM := Lib.hid ((HZ.out.mat hp).eq_ (fun i j _ _ => (rowsAt_zero rel i j).symm))
      have hRge := Lib.hid HZ.out.ge
      clear HZ hmk
      go_wp2_with fail
      have HRlt : Hid (∀ i, i < k → w.heap.size < R i) := fun i hi => by have := hRge.out i hi; omega
      clear hRge
      go_loopw [9] (fun s wo => ∃ e : Nat, e ≤ k ∧ s = .int .i64 e ∧ Hid (Mat wo g 0 k k R (rowsAt rel e 0)) ∧ Hid (Blk wo w.heap.size 30 #[.int .i64 n, .slice A k c]) ∧ Below w.heap.size w wo) (fun s _ => k - (intOf s).toNat)
      case atStart => exact ⟨0, Nat.zero_le _, rfl, HM, HK, hbel⟩
      case round =>
        clear HM HK hsz k00 k01 hbel
        obtain ⟨e, he, rfl, HM, HK, hbel⟩ := hrel
        obtain ⟨wo, rfl⟩ : ∃ wo : World, wo = wr := ⟨_, rfl⟩
        by_cases hlt2 : e < k
        · go_wp2_with fail
          go_loopw [10] (fun s wi => ∃ f : Nat, f ≤ e ∧ s = .int .i64 f ∧ Hid (Mat wi g 0 k k R (rowsAt rel e f)) ∧ Hid (Blk wi w.heap.size 30 #[.int .i64 n, .slice A k c]) ∧ Below w.heap.size w wi) (fun s _ => e - (intOf s).toNat)
          case atStart => exact ⟨0, Nat.zero_le _, rfl, HM, HK, hbel⟩
          case round =>
            clear HM HK hbel
            obtain ⟨f, hf, rfl, HM, HK, hbi⟩ := hrel
            have k00 := HK.out.cellAt 0 _ rfl
            have k01 := HK.out.cellAt 1 _ rfl
            have hKlt := HK.out.lt
            by_cases hlt3 : f < e
            · have e0 : (0 : Int) ≤ e := by omega
              have e1 : (e : Int) < k := by omega
              have e2 : (e : Int).toNat = e := by omega
              have f0 : (0 : Int) ≤ f := by omega
              have f1 : (f : Int) < k := by omega
              have f2 : (f : Int).toNat = f := by omega
              have hne : R e ≠ R f := fun h => by have := HM.out.apart e f (by omega) (by omega) h; omega
              have hne2 : R f ≠ R e := Ne.symm hne
              have hRe := HRlt.out e (by omega)
              have hRf := HRlt.out f (by omega)
              obtain ⟨q1, h1⟩ : ∃ q, Hid (nr e f = q) := ⟨_, rfl⟩
              have c1 := fun W hW => cn e f (by omega) (by omega) W hW q1 h1
              obtain ⟨q2, h2⟩ : ∃ q, Hid (rel e f = q) := ⟨_, rfl⟩
              have c2 := fun W hW => cc e f (by omega) (by omega) W hW q2 h2
              have H12 : Hid (q1 = true → q2 = true) := fun h => by rw [← h2.out]; exact hnc.out e f (by rw [h1.out]; exact h)
              clear cn cc h1
              go_wp2_with fail
              refine (c1 _ (by (repeat' (first | (with_reducible exact Below.refl _ _) | (with_reducible assumption) | (with_reducible refine Below.alloc ?_ ?_ _) | (with_reducible refine Below.drew ?_) | (with_reducible refine below_drewN ?_ _) | (with_reducible refine Below.setCell ?_ ?_ _) | (with_reducible refine Below.trans ?_ (Below.mono (by assumption) ?_)) | (first | omega | (simp only [World.size_alloc, World.size_setCell, World.size_drew]; omega) | (simp; omega) | (simp; done)))))).mono ?_
              rintro e' w2 ⟨rfl, hb2⟩
              have hM2 := HM.out.keep hb2
              have hK2 := HK.out.below hb2 hKlt
              have B2 := hbi.trans (hb2.mono hbi.size)
              clear k00 k01 HM HK hbi hb2 c1
              cases q1
              · have k00 := hK2.cellAt 0 _ rfl
                have k01 := hK2.cellAt 1 _ rfl
                have HM2 := Lib.hid hM2; have HK2 := Lib.hid hK2; clear hM2 hK2
                go_wp2_with fail
                refine (c2 _ B2).mono ?_
                rintro e' w3 ⟨rfl, hb3⟩
                have hM3 := HM2.out.keep hb3
                have hK3 := HK2.out.below hb3 HK2.out.lt
                have B3 := B2.trans (hb3.mono B2.size)
                have HK3 := Lib.hid hK3
                clear k00 k01 HM2 HK2 B2 hb3 c2 hK3
                cases q2
                · have HM3 := Lib.hid hM3; clear hM3
                  go_wp2
                  refine ⟨⟨f + 1, by omega, by go_num, HM3.out.eq_ (fun i j _ _ => rowsAt_no hlt3 h2.out i j), HK3.out, by (repeat' (first | (with_reducible exact Below.refl _ _) | (with_reducible assumption) | (with_reducible refine Below.alloc ?_ ?_ _) | (with_reducible refine Below.drew ?_) | (with_reducible refine below_drewN ?_ _) | (with_reducible refine Below.setCell ?_ ?_ _) | (with_reducible refine Below.trans ?_ (Below.mono (by assumption) ?_)) | (first | omega | (simp only [World.size_alloc, World.size_setCell, World.size_drew]; omega) | (simp; omega) | (simp; done))))⟩, by simp [intOf]; omega⟩
                · have he0 := hM3.head e (by omega)
                  have hf0 := hM3.head f (by omega)
                  have a0 := hM3.cell e (by omega) f (by omega)
                  have a1 := hM3.free e (by omega) f
                  have b0 := hM3.cell f (by omega) e (by omega)
                  have b1 := hM3.free f (by omega) e
                  rw [Nat.zero_add] at he0 hf0
                  have HM3 := Lib.hid hM3; clear hM3
                  go_wp2
                  have we : IntKind.i64.wrap (e : Int) = e := IntWalk.i64_in _ (by omega)
                  have wf : IntKind.i64.wrap (f : Int) = f := IntWalk.i64_in _ (by omega)
                  go_quiet (fail)
                  clear we wf
                  go_wp2
                  refine ⟨⟨f + 1, by omega, by go_num, (((HM3.out.keep (below_drewN (Below.refl _ _) _)).set (by omega) (by omega) 1).set (by omega) (by omega) 1).eq_ (fun i j _ _ => rowsAt_yes hlt3 h2.out i j), ?_, ?_⟩, by simp [intOf]; omega⟩
                  · exact (((HK3.out.drewN _).far (by show _ ≠ R e; omega) _).far (by show _ ≠ R f; omega) _)
                  · exact ((below_drewN B3 _).setCell (by show _ ≤ R e; omega) _).setCell (by show _ ≤ R f; omega) _
              · obtain rfl := H12.out rfl
                have he0 := hM2.head e (by omega)
                have hf0 := hM2.head f (by omega)
                have a0 := hM2.cell e (by omega) f (by omega)
                have a1 := hM2.free e (by omega) f
                have b0 := hM2.cell f (by omega) e (by omega)
                have b1 := hM2.free f (by omega) e
                rw [Nat.zero_add] at he0 hf0
                have HM2 := Lib.hid hM2; have HK2 := Lib.hid hK2; clear hM2 hK2 c2
                go_wp2
                have we : IntKind.i64.wrap (e : Int) = e := IntWalk.i64_in _ (by omega)
                have wf : IntKind.i64.wrap (f : Int) = f := IntWalk.i64_in _ (by omega)
                go_quiet (fail)
                clear we wf
                go_wp2
                refine ⟨⟨f + 1, by omega, by go_num, (((HM2.out.keep (below_drewN (Below.refl _ _) _)).set (by omega) (by omega) 1).set (by omega) (by omega) 1).eq_ (fun i j _ _ => rowsAt_yes hlt3 h2.out i j), ?_, ?_⟩, by simp [intOf]; omega⟩
                · exact (((HK2.out.drewN _).far (by show _ ≠ R e; omega) _).far (by show _ ≠ R f; omega) _)
                · exact ((below_drewN B2 _).setCell (by show _ ≤ R e; omega) _).setCell (by show _ ≤ R f; omega) _
            · obtain rfl : f = e := by omega
              obtain ⟨wi, rfl⟩ : ∃ wi : World, wi = wr := ⟨_, rfl⟩
              clear cn cc hw0
              go_wp2_with fail
              go_loopw [13] (fun s w4 => s = .int .i64 0 ∧ wi = w4) (fun _ _ => 0)
              case atStart => exact ⟨rfl, rfl⟩
              case round =>
                obtain ⟨rfl, rfl⟩ := hrel
                go_wp2
                refine ⟨⟨f + 1, by omega, by go_num, HM.out.eq_ (fun i j _ _ => rowsAt_next rel f i j), HK, hbi⟩, by simp [intOf]; omega⟩
        · obtain rfl : e = k := by omega
          go_wp2
          go_ret
          exact ⟨_, _, _, rfl, HM.out, hbel⟩
end Go.Proofs.Ytkpnplldnihalaa
namespace Go.Proofs.Ytkpnplldnihalaa
open Go.RowKit
set_option linter.unusedSimpArgs false
set_option linter.unusedVariables false
set_option maxRecDepth 20000

theorem properB_congr {m : Nat} {xs : List Int} {k : Int} {are are' : Nat → Nat → Bool} {bad : Int → Int → Bool} (h : ∀ i j, j < i → i < m → are i j = are' i j) : properB m xs k are bad = properB m xs k are' bad := by
  have hn : ∀ i, i < m → nbr are i = nbr are' i := fun i hi => by
    unfold nbr nbrTo
    congr 1
    refine List.filter_congr fun j hj => h i j (by simpa using hj) hi
  have key : ∀ i, i < m → properAt xs k are bad i = properAt xs k are' bad i := fun i hi => by unfold properAt; rw [hn i hi]
  rw [Bool.eq_iff_iff, properB, properB, List.all_eq_true, List.all_eq_true]
  constructor
  · intro h1 i hi; rw [← key i (by simpa using hi)]; exact h1 i hi
  · intro h1 i hi; rw [key i (by simpa using hi)]; exact h1 i hi
theorem rowsAt_are (rel : Nat → Nat → Bool) (m i j : Nat) (h : j < i) (hi : i < m) : decide (rowsAt rel m 0 i j = 1) = rel i j := by
  have a : max i j = i := by omega
  have b : min i j = j := by omega
  cases hr : rel i j <;> simp [rowsAt, metB, a, b, hr, show ¬ i = j by omega, hi]

end Go.Proofs.Ytkpnplldnihalaa
