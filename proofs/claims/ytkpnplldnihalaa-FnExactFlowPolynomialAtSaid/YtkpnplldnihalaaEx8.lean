/- The reference's l09Counts, l09Small; its CountConnecting, CountForests. -/
import Derived.Test.YtkpnplldnihalaaEx7
import Derived.Test.YtkpnplldnihalaaGr
namespace Go.Proofs.Ytkpnplldnihalaa
open Go.RowKit
set_option linter.unusedSimpArgs false
set_option linter.unusedVariables false
set_option maxRecDepth 20000

/-- The reference's numbers. -/
def countsV (N : Nat) (es : List (Int × Int)) : List Int := (leafs true es es.length 0 (idx N) 0 N).foldl (stepS es.length N) (List.replicate (es.length + 2) 0)
theorem foldS_len (L N : Nat) : ∀ (ys : List (Int × Int)) (b : List Int), (ys.foldl (stepS L N) b).length = b.length
  | [], _ => rfl
  | y :: ys, b => by rw [List.foldl_cons, foldS_len L N ys, stepS_len]
theorem countsV_len (N : Nat) (es : List (Int × Int)) : (countsV N es).length = es.length + 2 := by rw [countsV, foldS_len]; simp
theorem SameP.refl (x : List Int) : SameP x x := ⟨rfl, fun _ _ _ _ => Iff.rfl⟩
theorem okL0 (N : Nat) : OkL N 0 0 N := by unfold OkL; omega
theorem leaf_idx {N : Nat} {es : List (Int × Int)} (hin : InN N es) (hne : ∀ j, j < es.length → (es.getD j (0, 0)).1 ≠ (es.getD j (0, 0)).2) (hp : 0 < es.length) :
    ∀ p ∈ leafs true es es.length 0 (idx N) 0 N, (p.1 - N + p.2).toNat < es.length := fun p hp' => by
  obtain ⟨h1, h2, h3⟩ := leafs_ok true hin hne es.length 0 (idx N) 0 N (by omega) (okL0 N) (.inl ⟨rfl, rfl, rfl⟩) p hp'
  unfold OkL at h1
  by_cases e : p.1 = 0
  · have := h3 e; omega
  · have := h2 (by omega); omega
theorem counts_conn {N : Nat} {es : List (Int × Int)} (hin : InN N es) (hne : ∀ j, j < es.length → (es.getD j (0, 0)).1 ≠ (es.getD j (0, 0)).2) (hp : 0 < es.length) :
    (countsV N es).getD (es.length + 1) 0 = cntL (connQ N) (leafs false es es.length 0 (idx N) 0 N) 0 := by
  rw [leafs_same hin es.length 0 (idx N) (idx N) 0 N (by omega) (idx_len N) (SameP.refl _), countsV, fold_conn _ _ _ _ (by simp) (leaf_idx hin hne hp)]
  simp [connQ, List.getD]
  rfl
theorem counts_forest {N : Nat} {es : List (Int × Int)} (hin : InN N es) (hne : ∀ j, j < es.length → (es.getD j (0, 0)).1 ≠ (es.getD j (0, 0)).2) (hp : 0 < es.length) :
    (countsV N es).getD es.length 0 = cntL (forestQ N) (leafs false es es.length 0 (idx N) 0 N) 0 := by
  rw [leafs_same hin es.length 0 (idx N) (idx N) 0 N (by omega) (idx_len N) (SameP.refl _), countsV, fold_forest _ _ _ _ (by simp) (leaf_idx hin hne hp)]
  simp [forestQ, List.getD]
  rfl

set_option maxHeartbeats 8000000 in
theorem l09Counts_b (N M : Nat) (A : Option Addr) (c : Nat) (es : List (Int × Int)) (w : World)
    (hN : 1 ≤ N) (hN2 : N ≤ 100) (hl : es.length ≤ 100) (hM : Hid (es.length + 2 = M)) (hin : Hid (InN N es)) (hr : RdE w A es) :
    Calls Try.prog 57 #[.agg #[.int .i64 N, .slice A es.length c]] w fun e w' => e = .returned (.slice (some ⟨w.heap.size + 1, 0, none⟩) M M) ∧ Blk w' (w.heap.size + 1) 2 (cI (countsV N es)).toArray ∧ Below w.heap.size w w' := by
  obtain ⟨i0, hi, hz0, hz1, hz2⟩ := info_parts infoI
  have hM2 := hM.out
  have hmk := mk_row Try.underlying36 infoI M (by omega) (by omega)
  simp only [made_int] at hmk
  have cs := fun (A' : Option Addr) (c' : Nat) (W : World) (hrd : Hid (RdO W (w.heap.size + 1) A' (idx N))) (hBk : Hid (Blk W (w.heap.size + 1) 2 (cI (List.replicate M 0)).toArray)) (hW : Hid (Below w.heap.size w W)) =>
    sets_b (w.heap.size + 1) N M A c M es w.heap.size w hN hN2 hl hM hin (fun W hW => hr.below hW) (by omega) es.length 0 A' c' (idx N) 0 N (List.replicate M 0) W (by omega) (idx_len N) (okL0 N) hrd (by show _ = _; simp) hBk hW
  have hV : Hid ((leafs true es es.length 0 (idx N) 0 N).foldl (stepS es.length N) (List.replicate M 0) = countsV N es) := by show _ = _; rw [countsV, hM2]
  rw [hV.out] at cs
  obtain ⟨V, HV⟩ : ∃ V, Hid (countsV N es = V) := ⟨_, rfl⟩
  rw [HV.out] at cs ⊢
  clear hV HV hr hin
  have hW2 : wrap64 ((es.length : Int) + 2) = (M : Int) := by rw [← hM2, wrap64_small (by omega) (by omega)]; omega
  have HM := hM
  clear hM hM2
  generalize es.length = L at *
  have HW2 := Lib.hid hW2
  clear hl
  go_enter Try.func57, Try.ntmps57
  go_wp2
  clear hW2
  go_loopw [4, 5] (fun v sv wr => ∃ k : Nat, k ≤ N ∧ sv = .int .i64 k ∧ Hid (wr.ownsRow (w.heap.size + 2) 2 1 v k (cI (idx k))) ∧ Hid (Blk wr w.heap.size 30 #[.int .i64 N, .slice A L c]) ∧ Hid (Blk wr (w.heap.size + 1) 2 (cI (List.replicate M 0)).toArray) ∧ Below w.heap.size w wr) (fun _ sv _ => N - (intOf sv).toNat)
  case atStart =>
    refine ⟨0, Nat.zero_le _, rfl, ?_, ?_, ?_, ?_⟩
    · exact own_mono (own_blk (xs := []) (Blk.new' (n := w.heap.size + 2) _ (by simp)) (by simp) (by decide)) (Nat.le_refl _)
    · exact (((Blk.new w _ _).alloc _).alloc _)
    · exact ((Blk.new' (n := w.heap.size + 1) _ (by simp)).alloc _)
    · (repeat' (first | (with_reducible exact Below.refl _ _) | (with_reducible assumption) | (with_reducible refine Below.alloc ?_ ?_ _) | (with_reducible refine Below.drew ?_) | (with_reducible refine below_drewN ?_ _) | (with_reducible refine Below.setCell ?_ ?_ _) | (with_reducible refine Below.trans ?_ (Below.mono (by assumption) ?_)) | (first | omega | (simp only [World.size_alloc, World.size_setCell, World.size_drew]; omega) | (simp; omega) | (simp; done))))
  case round =>
    obtain ⟨k, hk, rfl, Hown, HK, HQ, hbel⟩ := hrel
    have hsz := HQ.out.lt
    obtain ⟨A1, c1, rfl⟩ := own_form Hown.out
    have k00 := HK.out.cellAt 0 _ rfl
    have k01 := HK.out.cellAt 1 _ rfl
    by_cases hlt : k < N
    · have hb3 : Below (w.heap.size + 2) wr (wr.alloc (.cells #[.int .i64 (k : Int)] 2)) := by (repeat' (first | (with_reducible exact Below.refl _ _) | (with_reducible assumption) | (with_reducible refine Below.alloc ?_ ?_ _) | (with_reducible refine Below.drew ?_) | (with_reducible refine below_drewN ?_ _) | (with_reducible refine Below.setCell ?_ ?_ _) | (with_reducible refine Below.trans ?_ (Below.mono (by assumption) ?_)) | (first | omega | (simp only [World.size_alloc, World.size_setCell, World.size_drew]; omega) | (simp; omega) | (simp; done))))
      have hown2 := own_below Hown.out (Below.alloc (Below.refl _ _) (Nat.le_refl _) (.cells #[.int .i64 (k : Int)] 2))
      have Hn := Lib.hid (idx_snoc k)
      go_wp2_with (first
        | (at_builtin; refine wpList_append_own _ rfl _ _ 36 rfl (w.heap.size + 2) 2 i0 (.int .i64 0) 1 8 Try.underlying36 hi hz0 hz1 hz2 rfl (by decide) _ _ _ rfl hown2 ⟨wr.heap.size, 0, none⟩ 1 1 [.int .i64 (k : Int)] rfl rfl ?c1 ?c2 ?c3 ?c4 ?c5 ?_))
      case c1 =>
        intro j u hj
        match j, hj with
        | 0, hj => simp at hj; subst hj; simp [Addr.add]
      case c2 => intro u hu; simp at hu; subst hu; rfl
      case c3 => unfold maxLen; omega
      case c4 => omega
      case c5 => simp; omega
      intro v' w1 hown' hgrow _
      have hb4 : Below (w.heap.size + 2) wr w1 := own_grown_below hb3 hown2 hgrow (by simp; omega)
      have hown3 := own_snocI hown' Hn.out
      have H3 := Lib.hid hown3
      have HK1 := Lib.hid (HK.out.below hb4 (by omega))
      have HQ1 := Lib.hid (HQ.out.below hb4 (by omega))
      have hb5 : Below w.heap.size w w1 := hbel.trans (hb4.mono (by omega))
      clear hown' hgrow hown2 hown3 hb3 hb4 HK HQ Hown hbel k00 k01
      go_wp2
      refine ⟨⟨k + 1, by omega, by go_num, H3, HK1, HQ1, hb5⟩, by simp [intOf]; omega⟩
    · obtain rfl : k = N := by omega
      have hrd : Hid (RdO wr (w.heap.size + 1) A1 (idx k)) := own_rdO Hown.out (by omega)
      have ct := cs A1 c1 wr hrd HQ hbel
      rw [show ((0 : Nat) : Int) = 0 from rfl] at ct
      clear cs
      go_wp2_with fail
      refine ct.mono ?_
      rintro e w2 ⟨rfl, hs2, hb2, hI2⟩
      have HI2 := Lib.hid hI2
      clear hI2 ct k00 k01
      go_wp2
      go_ret
      exact ⟨rfl, HI2.out, hbel.trans hb2⟩

theorem l09Small_b (n : Int) (A : Option Addr) (c : Nat) (es : List (Int × Int)) (w : World) (qg : Bool) (v : Int) (hq : Hid (isGraphB n es = qg)) (hv : Hid (scode qg true n 12 = v)) (hl : es.length ≤ 1048576) (hr : RdE w A es) :
    Calls Try.prog 56 #[.agg #[.int .i64 n, .slice A es.length c]] w fun e w' => e = .returned (.int .i64 v) ∧ Below w.heap.size w w' := by
  have cg := fun W (hW : Below w.heap.size w W) => l01Is_b n A c es W qg hq hl (hr.below hW)
  cases qg
  · have Hv : Hid (1 = v) := hv
    clear hr hq hv
    generalize es.length = L at *
    go_enter Try.func56, Try.ntmps56
    go_wp2_with fail
    refine (cg _ (by (repeat' (first | (with_reducible exact Below.refl _ _) | (with_reducible assumption) | (with_reducible refine Below.alloc ?_ ?_ _) | (with_reducible refine Below.drew ?_) | (with_reducible refine below_drewN ?_ _) | (with_reducible refine Below.setCell ?_ ?_ _) | (with_reducible refine Below.trans ?_ (Below.mono (by assumption) ?_)) | (first | omega | (simp only [World.size_alloc, World.size_setCell, World.size_drew]; omega) | (simp; omega) | (simp; done)))))).mono ?_
    rintro e w1 ⟨rfl, hb1⟩
    go_wp2
    go_ret
    exact ⟨by rw [← Hv.out]; rfl, by (repeat' (first | (with_reducible exact Below.refl _ _) | (with_reducible assumption) | (with_reducible refine Below.alloc ?_ ?_ _) | (with_reducible refine Below.drew ?_) | (with_reducible refine below_drewN ?_ _) | (with_reducible refine Below.setCell ?_ ?_ _) | (with_reducible refine Below.trans ?_ (Below.mono (by assumption) ?_)) | (first | omega | (simp only [World.size_alloc, World.size_setCell, World.size_drew]; omega) | (simp; omega) | (simp; done))))⟩
  · by_cases h : (12 : Int) < n
    · have Hv : Hid (3 = v) := by show _ = _; rw [← hv.out]; simp [scode, gcode, h]
      clear hr hq hv
      generalize es.length = L at *
      go_enter Try.func56, Try.ntmps56
      go_wp2_with fail
      refine (cg _ (by (repeat' (first | (with_reducible exact Below.refl _ _) | (with_reducible assumption) | (with_reducible refine Below.alloc ?_ ?_ _) | (with_reducible refine Below.drew ?_) | (with_reducible refine below_drewN ?_ _) | (with_reducible refine Below.setCell ?_ ?_ _) | (with_reducible refine Below.trans ?_ (Below.mono (by assumption) ?_)) | (first | omega | (simp only [World.size_alloc, World.size_setCell, World.size_drew]; omega) | (simp; omega) | (simp; done)))))).mono ?_
      rintro e w1 ⟨rfl, hb1⟩
      simp only [World.size_alloc, World.size_setCell, World.size_drew] at hb1; have B1 : Below w.heap.size w w1 := by (repeat' (first | (with_reducible exact Below.refl _ _) | (with_reducible assumption) | (with_reducible refine Below.alloc ?_ ?_ _) | (with_reducible refine Below.drew ?_) | (with_reducible refine below_drewN ?_ _) | (with_reducible refine Below.setCell ?_ ?_ _) | (with_reducible refine Below.trans ?_ (Below.mono (by assumption) ?_)) | (first | omega | (simp only [World.size_alloc, World.size_setCell, World.size_drew]; omega) | (simp; omega) | (simp; done))))
      have K1 : Blk w1 w.heap.size 30 #[.int .i64 n, .slice A L c] := (Blk.new' _ rfl).below hb1 (by omega)
      have d10 := K1.cellAt 0 _ rfl; have d11 := K1.cellAt 1 _ rfl; have z1 := hb1.size; simp only [World.size_alloc, World.size_setCell, World.size_drew] at z1
      go_wp2
      go_ret
      exact ⟨by rw [← Hv.out]; rfl, B1⟩
    · have Hv : Hid (0 = v) := by show _ = _; rw [← hv.out]; simp [scode, gcode, h]
      clear hr hq hv
      generalize es.length = L at *
      go_enter Try.func56, Try.ntmps56
      go_wp2_with fail
      refine (cg _ (by (repeat' (first | (with_reducible exact Below.refl _ _) | (with_reducible assumption) | (with_reducible refine Below.alloc ?_ ?_ _) | (with_reducible refine Below.drew ?_) | (with_reducible refine below_drewN ?_ _) | (with_reducible refine Below.setCell ?_ ?_ _) | (with_reducible refine Below.trans ?_ (Below.mono (by assumption) ?_)) | (first | omega | (simp only [World.size_alloc, World.size_setCell, World.size_drew]; omega) | (simp; omega) | (simp; done)))))).mono ?_
      rintro e w1 ⟨rfl, hb1⟩
      simp only [World.size_alloc, World.size_setCell, World.size_drew] at hb1; have B1 : Below w.heap.size w w1 := by (repeat' (first | (with_reducible exact Below.refl _ _) | (with_reducible assumption) | (with_reducible refine Below.alloc ?_ ?_ _) | (with_reducible refine Below.drew ?_) | (with_reducible refine below_drewN ?_ _) | (with_reducible refine Below.setCell ?_ ?_ _) | (with_reducible refine Below.trans ?_ (Below.mono (by assumption) ?_)) | (first | omega | (simp only [World.size_alloc, World.size_setCell, World.size_drew]; omega) | (simp; omega) | (simp; done))))
      have K1 : Blk w1 w.heap.size 30 #[.int .i64 n, .slice A L c] := (Blk.new' _ rfl).below hb1 (by omega)
      have d10 := K1.cellAt 0 _ rfl; have d11 := K1.cellAt 1 _ rfl; have z1 := hb1.size; simp only [World.size_alloc, World.size_setCell, World.size_drew] at z1
      go_wp2
      go_ret
      exact ⟨by rw [← Hv.out]; rfl, B1⟩
end Go.Proofs.Ytkpnplldnihalaa
