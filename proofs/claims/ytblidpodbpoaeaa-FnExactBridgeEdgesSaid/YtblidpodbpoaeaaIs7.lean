/- compareEdges, slices.IsSortedFunc at edges, IsGraph. -/
import Derived.Test.YtblidpodbpoaeaaIs6
import Derived.StillTailTactics
namespace Go.Proofs.Ytblidpodbpoaeaa
open Go.RowKit
set_option linter.unusedSimpArgs false
set_option linter.unusedVariables false

/-- The order of edges. -/
def cmpE (a b : Int × Int) : Int := if cmpI a.1 b.1 = 0 then cmpI a.2 b.2 else cmpI a.1 b.1
theorem cmpL_two (a b c d : Int) : cmpL [a, b] [c, d] = cmpE (a, b) (c, d) := by
  simp only [cmpL, cmpE]
  by_cases h : cmpI a c = 0
  · simp only [h, if_true]
    by_cases h2 : cmpI b d = 0 <;> simp [h2]
  · simp [h]
theorem cmpE_bd (a b : Int × Int) : -1 ≤ cmpE a b ∧ cmpE a b ≤ 1 := by
  unfold cmpE
  split
  · exact cmpI_bd _ _
  · exact cmpI_bd _ _

set_option maxHeartbeats 1000000 in
theorem compareEdges_b (a b c d : Int) (w : World) (r : Int) (hr : Hid (cmpE (a, b) (c, d) = r)) :
    Calls Try.prog 82 #[.agg #[.int .i64 a, .int .i64 b], .agg #[.int .i64 c, .int .i64 d]] w fun e w' => e = .returned (.int .i64 r) ∧ Below w.heap.size w w' := by
  have hr' : Hid (cmpL [a, b] [c, d] = r) := by show _ = _; rw [cmpL_two]; exact hr.out
  have hcall : ∀ W, W.cell? ⟨w.heap.size, 0, none⟩ = some (.int .i64 a) → W.cell? ⟨w.heap.size, 1, none⟩ = some (.int .i64 b) → W.cell? ⟨w.heap.size + 1, 0, none⟩ = some (.int .i64 c) → W.cell? ⟨w.heap.size + 1, 1, none⟩ = some (.int .i64 d) → w.heap.size + 1 < W.heap.size →
      Calls Try.prog 100 #[.slice (some ⟨w.heap.size, 0, none⟩) 2 2, .slice (some ⟨w.heap.size + 1, 0, none⟩) 2 2] W fun e w' => e = .returned (.int .i64 r) ∧ W = w' := by
    intro W h1 h2 h3 h4 h5
    refine slicesCompare_b _ _ 2 2 2 2 [a, b] [c, d] W r hr' rfl rfl (by omega) (by omega) (.inr ⟨_, 0, rfl, by omega, ?_⟩) (.inr ⟨_, 0, rfl, by omega, ?_⟩)
    · intro j hj
      match j, hj with
      | 0, _ => simpa using h1
      | 1, _ => simpa using h2
    · intro j hj
      match j, hj with
      | 0, _ => simpa using h3
      | 1, _ => simpa using h4
  have Hcall := Lib.hid hcall; clear hcall hr hr'
  go_enter Try.func82, Try.ntmps82
  go_wp2
  go_region_held3 (fun w' => w'.cell? ⟨w.heap.size, 0, none⟩ = some (.int .i64 a) ∧ w'.cell? ⟨w.heap.size, 1, none⟩ = some (.int .i64 b) ∧ w'.cell? ⟨w.heap.size + 1, 0, none⟩ = some (.int .i64 c) ∧ w'.cell? ⟨w.heap.size + 1, 1, none⟩ = some (.int .i64 d)) (first | go_keep | (obtain ⟨hq, _⟩ := bcell ‹Below _ _ _›; (repeat' apply And.intro) <;> (rw [hq _ _ (by first | assumption | omega | (simp; done) | (simp; omega) | (simp; assumption))] <;> (first | assumption | (simp [*]; done)))))
     (first | (go_at_call 100; refine (Hcall.out _ (by simp) (by simp) (by simp) (by simp) (by simp)).mono ?_; rintro e w2 ⟨rfl, rfl⟩))
  go_wp2
  go_ret
  exact ⟨rfl, by (repeat' (first | (with_reducible exact Below.refl _ _) | (with_reducible assumption) | (with_reducible refine Below.alloc ?_ ?_ _) | (with_reducible refine Below.drew ?_) | (with_reducible refine below_drewN ?_ _) | (with_reducible refine Below.setCell ?_ ?_ _) | (with_reducible refine Below.trans ?_ (Below.mono (by assumption) ?_)) | (first | omega | (simp only [World.size_alloc, World.size_setCell, World.size_drew]; omega) | (simp; omega) | (simp; done))))⟩

/-- whether edges are in ascending order -/
def sortedB (es : List (Int × Int)) : Bool := (List.range (es.length - 1)).all fun i => decide (0 ≤ cmpE (es.getD (i + 1) (0, 0)) (es.getD i (0, 0)))
theorem sortedB_true (es : List (Int × Int)) : sortedB es = true ↔ ∀ i, i + 1 < es.length → 0 ≤ cmpE (es.getD (i + 1) (0, 0)) (es.getD i (0, 0)) := by
  simp only [sortedB, List.all_eq_true, List.mem_range, decide_eq_true_eq]
  exact ⟨fun h i hi => h i (by omega), fun h i hi => h i (by omega)⟩
theorem sortedB_false (es : List (Int × Int)) (i : Nat) (hi : i + 1 < es.length) (h : cmpE (es.getD (i + 1) (0, 0)) (es.getD i (0, 0)) < 0) : sortedB es = false := by
  cases hq : sortedB es
  · rfl
  · have := (sortedB_true es).1 hq i hi; omega

set_option maxHeartbeats 1000000 in
theorem isSortedE_b (A : Option Addr) (c : Nat) (es : List (Int × Int)) (w : World) (q : Bool) (hq : Hid (sortedB es = q)) (hl : es.length ≤ 1048576) (hr : RdE w A es) :
    Calls Try.prog 104 #[.slice A es.length c, .func (.func 82) #[] #[]] w fun e w' => e = .returned (.bool q) ∧ Below w.heap.size w w' := by
  generalize hn : es.length = n at *
  have Hn := Lib.hid hn; clear hn
  go_enter Try.func104, Try.ntmps104
  go_wp2
  go_loopw [5] (fun i wr => ∃ k : Int, -1 ≤ k ∧ k ≤ (n : Int) - 1 ∧ i = .int .i64 k ∧ Hid (∀ j, j + 1 < n → k ≤ (j : Int) → 0 ≤ cmpE (es.getD (j + 1) (0, 0)) (es.getD j (0, 0))) ∧ Below w.heap.size w wr) (fun i _ => (intOf i + 1).toNat)
  case atStart => exact ⟨(n : Int) - 1, by omega, by omega, rfl, (by intro j h1 h2; omega), by (repeat' (first | (with_reducible exact Below.refl _ _) | (with_reducible assumption) | (with_reducible refine Below.alloc ?_ ?_ _) | (with_reducible refine Below.drew ?_) | (with_reducible refine below_drewN ?_ _) | (with_reducible refine Below.setCell ?_ ?_ _) | (with_reducible refine Below.trans ?_ (Below.mono (by assumption) ?_)) | (first | omega | (simp only [World.size_alloc, World.size_setCell, World.size_drew]; omega) | (simp; omega) | (simp; done))))⟩
  case round =>
    obtain ⟨k, hk, hk', rfl, hE, hbel⟩ := hrel
    have hsz := hbel.size
    by_cases hlt : 0 < k
    · obtain ⟨i, rfl⟩ : ∃ i : Nat, k = (i : Int) + 1 := ⟨(k - 1).toNat, by omega⟩
      obtain ⟨b, off, rfl, hb, hc⟩ := (hr.below hbel).pos (by have := Hn.out; omega)
      have hc0 := (hc (i + 1) (by have := Hn.out; omega)).1
      have hc1 := (hc (i + 1) (by have := Hn.out; omega)).2
      have hd0 := (hc i (by have := Hn.out; omega)).1
      have hd1 := (hc i (by have := Hn.out; omega)).2
      clear hc hr
      obtain ⟨x1, x2, Hx⟩ : ∃ x1 x2, Hid (es.getD (i + 1) (0, 0) = (x1, x2)) := ⟨_, _, rfl⟩
      obtain ⟨y1, y2, Hy⟩ : ∃ y1 y2, Hid (es.getD i (0, 0) = (y1, y2)) := ⟨_, _, rfl⟩
      rw [Hx.out] at hc0 hc1
      rw [Hy.out] at hd0 hd1
      dsimp only at hc0 hc1 hd0 hd1
      obtain ⟨r, Hr⟩ : ∃ r, Hid (cmpE (x1, x2) (y1, y2) = r) := ⟨_, rfl⟩
      go_wp2
      have hw1 : IntKind.i64.wrap ((i : Int) + 1 - 1) = i := by rw [show (i : Int) + 1 - 1 = i by omega]; exact IntWalk.i64_in _ (by omega)
      have hw2 : IntKind.i64.wrap (i : Int) = i := IntWalk.i64_in _ (by omega)
      have t1 : ((i : Int) + 1).toNat = i + 1 := by omega
      have b1 : (0 : Int) ≤ (i : Int) + 1 := by omega
      have b2 : (i : Int) + 1 < n := by omega
      have b3 : (i : Int) < n := by omega
      have b4 : (0 : Int) ≤ (i : Int) := by omega
      have b5 : i < n := by omega
      have b6 : i + 1 < n := by omega
      go_region_held3 (fun w' => w'.cell? ⟨b, off + (i + 1) * 2, none⟩ = some (.int .i64 x1) ∧ w'.cell? ⟨b, off + (i + 1) * 2 + 1, none⟩ = some (.int .i64 x2) ∧ w'.cell? ⟨b, off + i * 2, none⟩ = some (.int .i64 y1) ∧ w'.cell? ⟨b, off + i * 2 + 1, none⟩ = some (.int .i64 y2)) (first | go_keep | (obtain ⟨hq, _⟩ := bcell ‹Below _ _ _›; (repeat' apply And.intro) <;> (rw [hq _ _ (by first | assumption | omega | (simp; done) | (simp; omega) | (simp; assumption))] <;> (first | assumption | (simp [*]; done)))))
        (first | (go_at_call 82; refine (compareEdges_b _ _ _ _ _ r Hr).mono ?_; rintro e w2 ⟨rfl, hb2⟩))
      clear hw1 hw2 t1 b1 b2 b3 b4 b5
      by_cases hr0 : r < 0
      · go_wp2
        go_ret
        refine ⟨?_, by (repeat' (first | (with_reducible exact Below.refl _ _) | (with_reducible assumption) | (with_reducible refine Below.alloc ?_ ?_ _) | (with_reducible refine Below.drew ?_) | (with_reducible refine below_drewN ?_ _) | (with_reducible refine Below.setCell ?_ ?_ _) | (with_reducible refine Below.trans ?_ (Below.mono (by assumption) ?_)) | (first | omega | (simp only [World.size_alloc, World.size_setCell, World.size_drew]; omega) | (simp; omega) | (simp; done))))⟩
        have h1 := Hr.out
        rw [← Hx.out, ← Hy.out] at h1
        rw [← hq.out, sortedB_false es i (by have := Hn.out; omega) (by omega)]; rfl
      · go_wp2
        refine ⟨⟨i, by omega, by omega, by go_num, ?_, by (repeat' (first | (with_reducible exact Below.refl _ _) | (with_reducible assumption) | (with_reducible refine Below.alloc ?_ ?_ _) | (with_reducible refine Below.drew ?_) | (with_reducible refine below_drewN ?_ _) | (with_reducible refine Below.setCell ?_ ?_ _) | (with_reducible refine Below.trans ?_ (Below.mono (by assumption) ?_)) | (first | omega | (simp only [World.size_alloc, World.size_setCell, World.size_drew]; omega) | (simp; omega) | (simp; done))))⟩, by simp [intOf]; omega⟩
        intro j h1 h2
        by_cases e : j = i
        · subst e
          rw [Hx.out, Hy.out, Hr.out]; omega
        · exact hE.out j h1 (by omega)
    · go_wp2
      go_ret
      refine ⟨?_, by (repeat' (first | (with_reducible exact Below.refl _ _) | (with_reducible assumption) | (with_reducible refine Below.alloc ?_ ?_ _) | (with_reducible refine Below.drew ?_) | (with_reducible refine below_drewN ?_ _) | (with_reducible refine Below.setCell ?_ ?_ _) | (with_reducible refine Below.trans ?_ (Below.mono (by assumption) ?_)) | (first | omega | (simp only [World.size_alloc, World.size_setCell, World.size_drew]; omega) | (simp; omega) | (simp; done))))⟩
      have : sortedB es = true := (sortedB_true es).2 fun j hj => hE.out j (by have := Hn.out; omega) (by omega)
      rw [← hq.out, this]; rfl

/-- whether a size and edges are a graph -/
def isGraphB (n : Int) (es : List (Int × Int)) : Bool := areEdgesB n es && (es.all (fun e => decide (e.1 < e.2)) && (sortedB es && (degs n.toNat es).all (fun k => decide (k = 3))))
theorem areEdgesB_in {n : Int} {es : List (Int × Int)} (h : areEdgesB n es = true) : (2 ≤ n ∧ n ≤ 20) ∧ n % 2 = 0 ∧ (es.length : Int) = 3 * n / 2 ∧ InN n.toNat es ∧ ∀ j, j < es.length → (es.getD j (0, 0)).1 ≠ (es.getD j (0, 0)).2 := by
  simp only [areEdgesB, Bool.and_eq_true, decide_eq_true_eq] at h
  obtain ⟨h1, h2, h3⟩ := h
  obtain ⟨h4, h5⟩ := sizeB_true.1 h1
  have h6 : ∀ j (hj : j < es.length), edgeOK n (es.getD j (0, 0)).1 (es.getD j (0, 0)).2 = true := by
    intro j hj
    simp only [List.getD_eq_getElem?_getD, List.getElem?_eq_getElem hj, Option.getD_some]
    exact List.all_eq_true.1 h3 _ (List.getElem_mem hj)
  refine ⟨h4, h5, h2, fun j hj => ?_, fun j hj => ?_⟩
  · have := h6 j hj
    simp only [edgeOK, Bool.and_eq_true, inB_true] at this
    obtain ⟨⟨a1, a2⟩, ⟨b1, b2⟩, _⟩ := this
    exact ⟨(es.getD j (0, 0)).1.toNat, (es.getD j (0, 0)).2.toNat, by rw [Int.toNat_of_nonneg a1, Int.toNat_of_nonneg b1], by omega, by omega⟩
  · have := h6 j hj
    simp only [edgeOK, Bool.and_eq_true, decide_eq_true_eq] at this
    exact this.2.2

set_option maxHeartbeats 1000000 in
theorem isGraph_b (n : Int) (A : Option Addr) (c : Nat) (es : List (Int × Int)) (w : World) (q : Bool) (hq : Hid (isGraphB n es = q)) (hl : es.length ≤ 1048576) (hr : RdE w A es) :
    Calls Try.prog 85 #[.agg #[.int .i64 n, .slice A es.length c]] w fun e w' => e = .returned (.bool q) ∧ Below w.heap.size w w' := by
  obtain ⟨q1, h1⟩ : ∃ q1, Hid (areEdgesB n es = q1) := ⟨_, rfl⟩
  obtain ⟨q2, h2⟩ : ∃ q2, Hid (es.all (fun e => decide (e.1 < e.2)) = q2) := ⟨_, rfl⟩
  obtain ⟨q3, h3⟩ : ∃ q3, Hid (sortedB es = q3) := ⟨_, rfl⟩
  obtain ⟨q4, h4⟩ : ∃ q4, Hid ((degs n.toNat es).all (fun k => decide (k = 3)) = q4) := ⟨_, rfl⟩
  have hq' : Hid ((q1 && (q2 && (q3 && q4))) = q) := by show _ = _; rw [← hq.out, isGraphB, h1.out, h2.out, h3.out, h4.out]
  have c1 := fun W (hW : Below w.heap.size w W) => areEdges_b n A c es W q1 h1 hl (hr.below hW)
  have ent : Ent 103 := enters_of Try.func103 (by kernel_rfl) rfl
  have c2 := fun W (hW : Below w.heap.size w W) => areAllE_b A c es 103 #[] (fun e => decide (e.1 < e.2)) W q2 h2 hl (hr.below hW) ent (fun W a b _ => isGraph1_b a b W)
  have c3 := fun W (hW : Below w.heap.size w W) => isSortedE_b A c es W q3 h3 hl (hr.below hW)
  have c4 : q1 = true → ∀ W, Below w.heap.size w W → Calls Try.prog 105 #[.int .i64 n, .slice A es.length c] W fun e w' => e = .returned (.bool q4) ∧ Below W.heap.size W w' := by
    intro h W hW
    subst h
    obtain ⟨⟨a, b⟩, _, _, hin, _⟩ := areEdgesB_in h1.out
    obtain ⟨m, rfl⟩ : ∃ m : Nat, n = m := ⟨n.toNat, by omega⟩
    exact isCubic_b m A c es W q4 h4 (by omega) hl (hr.below hW) hin
  clear hr hq h1 h2 h3 h4 ent
  cases q1
  · have Hq : Hid (false = q) := by show _ = _; rw [← hq'.out]; rfl
    clear hq' c2 c3 c4
    go_enter Try.func85, Try.ntmps85
    go_wp2_with fail
    refine (c1 _ (by (repeat' (first | (with_reducible exact Below.refl _ _) | (with_reducible assumption) | (with_reducible refine Below.alloc ?_ ?_ _) | (with_reducible refine Below.drew ?_) | (with_reducible refine below_drewN ?_ _) | (with_reducible refine Below.setCell ?_ ?_ _) | (with_reducible refine Below.trans ?_ (Below.mono (by assumption) ?_)) | (first | omega | (simp only [World.size_alloc, World.size_setCell, World.size_drew]; omega) | (simp; omega) | (simp; done)))))).mono ?_
    rintro e w1 ⟨rfl, hb1⟩
    go_wp2
    go_ret
    exact ⟨by rw [← Hq.out]; rfl, by (repeat' (first | (with_reducible exact Below.refl _ _) | (with_reducible assumption) | (with_reducible refine Below.alloc ?_ ?_ _) | (with_reducible refine Below.drew ?_) | (with_reducible refine below_drewN ?_ _) | (with_reducible refine Below.setCell ?_ ?_ _) | (with_reducible refine Below.trans ?_ (Below.mono (by assumption) ?_)) | (first | omega | (simp only [World.size_alloc, World.size_setCell, World.size_drew]; omega) | (simp; omega) | (simp; done))))⟩

  cases q2
  · have Hq : Hid (false = q) := by show _ = _; rw [← hq'.out]; rfl
    clear hq' c3 c4
    go_enter Try.func85, Try.ntmps85
    go_wp2_with fail
    refine (c1 _ (by (repeat' (first | (with_reducible exact Below.refl _ _) | (with_reducible assumption) | (with_reducible refine Below.alloc ?_ ?_ _) | (with_reducible refine Below.drew ?_) | (with_reducible refine below_drewN ?_ _) | (with_reducible refine Below.setCell ?_ ?_ _) | (with_reducible refine Below.trans ?_ (Below.mono (by assumption) ?_)) | (first | omega | (simp only [World.size_alloc, World.size_setCell, World.size_drew]; omega) | (simp; omega) | (simp; done)))))).mono ?_
    rintro e w1 ⟨rfl, hb1⟩
    simp only [World.size_alloc, World.size_setCell, World.size_drew] at hb1; have B1 : Below w.heap.size w w1 := by (repeat' (first | (with_reducible exact Below.refl _ _) | (with_reducible assumption) | (with_reducible refine Below.alloc ?_ ?_ _) | (with_reducible refine Below.drew ?_) | (with_reducible refine below_drewN ?_ _) | (with_reducible refine Below.setCell ?_ ?_ _) | (with_reducible refine Below.trans ?_ (Below.mono (by assumption) ?_)) | (first | omega | (simp only [World.size_alloc, World.size_setCell, World.size_drew]; omega) | (simp; omega) | (simp; done))))
    have K1 : Blk w1 w.heap.size 24 #[.int .i64 n, .slice A es.length c] := (Blk.new' _ rfl).below hb1 (by omega)
    have d10 := K1.cellAt 0 _ rfl; have d11 := K1.cellAt 1 _ rfl; have z1 := hb1.size; simp only [World.size_alloc, World.size_setCell, World.size_drew] at z1
    go_wp2_with fail
    refine (c2 _ B1).mono ?_
    rintro e w2 ⟨rfl, hb2⟩
    go_wp2
    go_ret
    exact ⟨by rw [← Hq.out]; rfl, by (repeat' (first | (with_reducible exact Below.refl _ _) | (with_reducible assumption) | (with_reducible refine Below.alloc ?_ ?_ _) | (with_reducible refine Below.drew ?_) | (with_reducible refine below_drewN ?_ _) | (with_reducible refine Below.setCell ?_ ?_ _) | (with_reducible refine Below.trans ?_ (Below.mono (by assumption) ?_)) | (first | omega | (simp only [World.size_alloc, World.size_setCell, World.size_drew]; omega) | (simp; omega) | (simp; done))))⟩
  cases q3
  · have Hq : Hid (false = q) := by show _ = _; rw [← hq'.out]; rfl
    clear hq' c4
    go_enter Try.func85, Try.ntmps85
    go_wp2_with fail
    refine (c1 _ (by (repeat' (first | (with_reducible exact Below.refl _ _) | (with_reducible assumption) | (with_reducible refine Below.alloc ?_ ?_ _) | (with_reducible refine Below.drew ?_) | (with_reducible refine below_drewN ?_ _) | (with_reducible refine Below.setCell ?_ ?_ _) | (with_reducible refine Below.trans ?_ (Below.mono (by assumption) ?_)) | (first | omega | (simp only [World.size_alloc, World.size_setCell, World.size_drew]; omega) | (simp; omega) | (simp; done)))))).mono ?_
    rintro e w1 ⟨rfl, hb1⟩
    simp only [World.size_alloc, World.size_setCell, World.size_drew] at hb1; have B1 : Below w.heap.size w w1 := by (repeat' (first | (with_reducible exact Below.refl _ _) | (with_reducible assumption) | (with_reducible refine Below.alloc ?_ ?_ _) | (with_reducible refine Below.drew ?_) | (with_reducible refine below_drewN ?_ _) | (with_reducible refine Below.setCell ?_ ?_ _) | (with_reducible refine Below.trans ?_ (Below.mono (by assumption) ?_)) | (first | omega | (simp only [World.size_alloc, World.size_setCell, World.size_drew]; omega) | (simp; omega) | (simp; done))))
    have K1 : Blk w1 w.heap.size 24 #[.int .i64 n, .slice A es.length c] := (Blk.new' _ rfl).below hb1 (by omega)
    have d10 := K1.cellAt 0 _ rfl; have d11 := K1.cellAt 1 _ rfl; have z1 := hb1.size; simp only [World.size_alloc, World.size_setCell, World.size_drew] at z1
    go_wp2_with fail
    refine (c2 _ B1).mono ?_
    rintro e w2 ⟨rfl, hb2⟩
    have B2 := B1.trans (hb2.mono B1.size); have K2 := K1.below hb2 K1.lt; have d20 := K2.cellAt 0 _ rfl; have d21 := K2.cellAt 1 _ rfl; have z2 := B2.size
    go_wp2_with fail
    refine (c3 _ B2).mono ?_
    rintro e w3 ⟨rfl, hb3⟩
    go_wp2
    go_ret
    exact ⟨by rw [← Hq.out]; rfl, by (repeat' (first | (with_reducible exact Below.refl _ _) | (with_reducible assumption) | (with_reducible refine Below.alloc ?_ ?_ _) | (with_reducible refine Below.drew ?_) | (with_reducible refine below_drewN ?_ _) | (with_reducible refine Below.setCell ?_ ?_ _) | (with_reducible refine Below.trans ?_ (Below.mono (by assumption) ?_)) | (first | omega | (simp only [World.size_alloc, World.size_setCell, World.size_drew]; omega) | (simp; omega) | (simp; done))))⟩
  · have Hq : Hid (q4 = q) := by show _ = _; rw [← hq'.out]; rfl
    clear hq'
    have c5 := c4 rfl
    clear c4
    go_enter Try.func85, Try.ntmps85
    go_wp2_with fail
    refine (c1 _ (by (repeat' (first | (with_reducible exact Below.refl _ _) | (with_reducible assumption) | (with_reducible refine Below.alloc ?_ ?_ _) | (with_reducible refine Below.drew ?_) | (with_reducible refine below_drewN ?_ _) | (with_reducible refine Below.setCell ?_ ?_ _) | (with_reducible refine Below.trans ?_ (Below.mono (by assumption) ?_)) | (first | omega | (simp only [World.size_alloc, World.size_setCell, World.size_drew]; omega) | (simp; omega) | (simp; done)))))).mono ?_
    rintro e w1 ⟨rfl, hb1⟩
    simp only [World.size_alloc, World.size_setCell, World.size_drew] at hb1; have B1 : Below w.heap.size w w1 := by (repeat' (first | (with_reducible exact Below.refl _ _) | (with_reducible assumption) | (with_reducible refine Below.alloc ?_ ?_ _) | (with_reducible refine Below.drew ?_) | (with_reducible refine below_drewN ?_ _) | (with_reducible refine Below.setCell ?_ ?_ _) | (with_reducible refine Below.trans ?_ (Below.mono (by assumption) ?_)) | (first | omega | (simp only [World.size_alloc, World.size_setCell, World.size_drew]; omega) | (simp; omega) | (simp; done))))
    have K1 : Blk w1 w.heap.size 24 #[.int .i64 n, .slice A es.length c] := (Blk.new' _ rfl).below hb1 (by omega)
    have d10 := K1.cellAt 0 _ rfl; have d11 := K1.cellAt 1 _ rfl; have z1 := hb1.size; simp only [World.size_alloc, World.size_setCell, World.size_drew] at z1
    go_wp2_with fail
    refine (c2 _ B1).mono ?_
    rintro e w2 ⟨rfl, hb2⟩
    have B2 := B1.trans (hb2.mono B1.size); have K2 := K1.below hb2 K1.lt; have d20 := K2.cellAt 0 _ rfl; have d21 := K2.cellAt 1 _ rfl; have z2 := B2.size
    go_wp2_with fail
    refine (c3 _ B2).mono ?_
    rintro e w3 ⟨rfl, hb3⟩
    have B3 := B2.trans (hb3.mono B2.size); have K3 := K2.below hb3 K2.lt; have d30 := K3.cellAt 0 _ rfl; have d31 := K3.cellAt 1 _ rfl; have z3 := B3.size
    go_wp2_with fail
    refine (c5 _ B3).mono ?_
    rintro e w4 ⟨rfl, hb4⟩
    go_wp2
    go_ret
    exact ⟨by rw [← Hq.out]; rfl, by (repeat' (first | (with_reducible exact Below.refl _ _) | (with_reducible assumption) | (with_reducible refine Below.alloc ?_ ?_ _) | (with_reducible refine Below.drew ?_) | (with_reducible refine below_drewN ?_ _) | (with_reducible refine Below.setCell ?_ ?_ _) | (with_reducible refine Below.trans ?_ (Below.mono (by assumption) ?_)) | (first | omega | (simp only [World.size_alloc, World.size_setCell, World.size_drew]; omega) | (simp; omega) | (simp; done))))⟩
end Go.Proofs.Ytblidpodbpoaeaa
