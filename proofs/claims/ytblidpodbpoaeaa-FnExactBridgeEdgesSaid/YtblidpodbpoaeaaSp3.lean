/- The reference's test of graphs: l01Is, l01Vertices. -/
import Derived.Test.YtblidpodbpoaeaaSp2
namespace Go.Proofs.Ytblidpodbpoaeaa
open Go.RowKit
set_option linter.unusedSimpArgs false
set_option linter.unusedVariables false

theorem isGraphB_ends {n : Int} {es : List (Int × Int)} (h : areEdgesB n es = false) : isGraphB n es = false := by simp [isGraphB, h]
theorem isGraphB_cubic {n : Int} {es : List (Int × Int)} (h : (degs n.toNat es).all (fun k => decide (k = 3)) = false) : isGraphB n es = false := by simp [isGraphB, h]
theorem isGraphB_gtr {n : Int} {es : List (Int × Int)} (j : Nat) (hj : j < es.length) (h : (es.getD j (0, 0)).2 < (es.getD j (0, 0)).1) : isGraphB n es = false := by
  have : es.all (fun e => decide (e.1 < e.2)) = false := by
    rw [List.all_eq_false]
    refine ⟨es.getD j (0, 0), ?_, by rw [decide_eq_true_eq]; omega⟩
    simp only [List.getD_eq_getElem?_getD, List.getElem?_eq_getElem hj, Option.getD_some]; exact List.getElem_mem hj
  simp [isGraphB, this]
theorem isGraphB_before {n : Int} {es : List (Int × Int)} (i : Nat) (hi : i + 1 < es.length) (h : beforeB (es.getD (i + 1) (0, 0)) (es.getD i (0, 0)) = true) : isGraphB n es = false := by
  rw [beforeB_cmp] at h
  have := sortedB_false es i hi (by simpa using h)
  simp [isGraphB, this]
theorem isGraphB_yes {n : Int} {es : List (Int × Int)} (h1 : areEdgesB n es = true) (h2 : (degs n.toNat es).all (fun k => decide (k = 3)) = true) (h3 : ∀ j, j < es.length → (es.getD j (0, 0)).1 ≤ (es.getD j (0, 0)).2)
    (h4 : ∀ i, i + 1 < es.length → beforeB (es.getD (i + 1) (0, 0)) (es.getD i (0, 0)) = false) : isGraphB n es = true := by
  obtain ⟨_, _, _, _, hne⟩ := areEdgesB_in h1
  simp only [isGraphB, Bool.and_eq_true]
  refine ⟨h1, ?_, ?_, h2⟩
  · rw [List.all_eq_true]
    intro e he
    obtain ⟨j, hj, rfl⟩ := List.getElem_of_mem he
    have a := h3 j hj; have b := hne j hj
    simp only [List.getD_eq_getElem?_getD, List.getElem?_eq_getElem hj, Option.getD_some] at a b
    simp; omega
  · rw [sortedB_true]
    intro i hi
    have := h4 i hi
    rw [beforeB_cmp] at this
    simpa using this

set_option maxHeartbeats 2000000 in
theorem l01Is_b (n : Int) (A : Option Addr) (c : Nat) (es : List (Int × Int)) (w : World) (q : Bool) (hq : Hid (isGraphB n es = q)) (hl : es.length ≤ 1048576) (hr : RdE w A es) :
    Calls Try.prog 55 #[.agg #[.int .i64 n, .slice A es.length c]] w fun e w' => e = .returned (.bool q) ∧ Below w.heap.size w w' := by
  obtain ⟨q1, h1⟩ : ∃ q1, Hid (areEdgesB n es = q1) := ⟨_, rfl⟩
  have c1 := fun W (hW : Below w.heap.size w W) => l01Ends_b n A c es W q1 h1 hl (hr.below hW)
  cases q1
  · have Hq : Hid (false = q) := by show _ = _; rw [← hq.out, isGraphB_ends h1.out]
    clear hq hr
    have c1' : ∀ W (hW : Below w.heap.size w W), Calls Try.prog 88 #[.int .i64 n, .slice A es.length c] W fun e w' => e = .returned (.int .i64 2) ∧ Below W.heap.size W w' := c1
    clear c1
    go_enter Try.func55, Try.ntmps55
    go_wp2_with fail
    refine (c1' _ (by (repeat' (first | (with_reducible exact Below.refl _ _) | (with_reducible assumption) | (with_reducible refine Below.alloc ?_ ?_ _) | (with_reducible refine Below.drew ?_) | (with_reducible refine below_drewN ?_ _) | (with_reducible refine Below.setCell ?_ ?_ _) | (with_reducible refine Below.trans ?_ (Below.mono (by assumption) ?_)) | (first | omega | (simp only [World.size_alloc, World.size_setCell, World.size_drew]; omega) | (simp; omega) | (simp; done)))))).mono ?_
    rintro e w1 ⟨rfl, hb1⟩
    go_wp2
    go_ret
    exact ⟨by rw [← Hq.out]; rfl, by (repeat' (first | (with_reducible exact Below.refl _ _) | (with_reducible assumption) | (with_reducible refine Below.alloc ?_ ?_ _) | (with_reducible refine Below.drew ?_) | (with_reducible refine below_drewN ?_ _) | (with_reducible refine Below.setCell ?_ ?_ _) | (with_reducible refine Below.trans ?_ (Below.mono (by assumption) ?_)) | (first | omega | (simp only [World.size_alloc, World.size_setCell, World.size_drew]; omega) | (simp; omega) | (simp; done))))⟩
  have c1' : ∀ W (hW : Below w.heap.size w W), Calls Try.prog 88 #[.int .i64 n, .slice A es.length c] W fun e w' => e = .returned (.int .i64 0) ∧ Below W.heap.size W w' := c1
  clear c1
  obtain ⟨⟨ha, hb⟩, hx1, hx2, hin, hx3⟩ := areEdgesB_in h1.out
  clear hx1 hx2 hx3
  obtain ⟨m, rfl⟩ : ∃ m : Nat, n = m := ⟨n.toNat, by omega⟩
  rw [Int.toNat_natCast] at hin
  obtain ⟨q4, h4⟩ : ∃ q4, Hid ((degs m es).all (fun k => decide (k = 3)) = q4) := ⟨_, rfl⟩
  have c4 := fun W (hW : Below w.heap.size w W) => l01Cubic_b m A c es W q4 h4 (by omega) hl (hr.below hW) hin
  cases q4
  · have Hq : Hid (false = q) := by show _ = _; rw [← hq.out, isGraphB_cubic (by rw [Int.toNat_natCast]; exact h4.out)]
    clear hq hr hin
    go_enter Try.func55, Try.ntmps55
    go_wp2_with fail
    refine (c1' _ (by (repeat' (first | (with_reducible exact Below.refl _ _) | (with_reducible assumption) | (with_reducible refine Below.alloc ?_ ?_ _) | (with_reducible refine Below.drew ?_) | (with_reducible refine below_drewN ?_ _) | (with_reducible refine Below.setCell ?_ ?_ _) | (with_reducible refine Below.trans ?_ (Below.mono (by assumption) ?_)) | (first | omega | (simp only [World.size_alloc, World.size_setCell, World.size_drew]; omega) | (simp; omega) | (simp; done)))))).mono ?_
    rintro e w1 ⟨rfl, hb1⟩
    simp only [World.size_alloc, World.size_setCell, World.size_drew] at hb1; have B1 : Below w.heap.size w w1 := by (repeat' (first | (with_reducible exact Below.refl _ _) | (with_reducible assumption) | (with_reducible refine Below.alloc ?_ ?_ _) | (with_reducible refine Below.drew ?_) | (with_reducible refine below_drewN ?_ _) | (with_reducible refine Below.setCell ?_ ?_ _) | (with_reducible refine Below.trans ?_ (Below.mono (by assumption) ?_)) | (first | omega | (simp only [World.size_alloc, World.size_setCell, World.size_drew]; omega) | (simp; omega) | (simp; done))))
    have K1 : Blk w1 w.heap.size 24 #[.int .i64 m, .slice A es.length c] := (Blk.new' _ rfl).below hb1 (by omega)
    have d10 := K1.cellAt 0 _ rfl; have d11 := K1.cellAt 1 _ rfl; have z1 := hb1.size; simp only [World.size_alloc, World.size_setCell, World.size_drew] at z1
    go_wp2_with fail
    refine (c4 _ B1).mono ?_
    rintro e w2 ⟨rfl, hb2⟩
    go_wp2
    go_ret
    exact ⟨by rw [← Hq.out]; rfl, by (repeat' (first | (with_reducible exact Below.refl _ _) | (with_reducible assumption) | (with_reducible refine Below.alloc ?_ ?_ _) | (with_reducible refine Below.drew ?_) | (with_reducible refine below_drewN ?_ _) | (with_reducible refine Below.setCell ?_ ?_ _) | (with_reducible refine Below.trans ?_ (Below.mono (by assumption) ?_)) | (first | omega | (simp only [World.size_alloc, World.size_setCell, World.size_drew]; omega) | (simp; omega) | (simp; done))))⟩
  · clear hin
    have hcc := c
    generalize hm : es.length = l at *
    have Hm := Lib.hid hm; clear hm
    go_enter Try.func55, Try.ntmps55
    go_wp2_with fail
    refine (c1' _ (by (repeat' (first | (with_reducible exact Below.refl _ _) | (with_reducible assumption) | (with_reducible refine Below.alloc ?_ ?_ _) | (with_reducible refine Below.drew ?_) | (with_reducible refine below_drewN ?_ _) | (with_reducible refine Below.setCell ?_ ?_ _) | (with_reducible refine Below.trans ?_ (Below.mono (by assumption) ?_)) | (first | omega | (simp only [World.size_alloc, World.size_setCell, World.size_drew]; omega) | (simp; omega) | (simp; done)))))).mono ?_
    rintro e w1 ⟨rfl, hb1⟩
    simp only [World.size_alloc, World.size_setCell, World.size_drew] at hb1; have B1 : Below w.heap.size w w1 := by (repeat' (first | (with_reducible exact Below.refl _ _) | (with_reducible assumption) | (with_reducible refine Below.alloc ?_ ?_ _) | (with_reducible refine Below.drew ?_) | (with_reducible refine below_drewN ?_ _) | (with_reducible refine Below.setCell ?_ ?_ _) | (with_reducible refine Below.trans ?_ (Below.mono (by assumption) ?_)) | (first | omega | (simp only [World.size_alloc, World.size_setCell, World.size_drew]; omega) | (simp; omega) | (simp; done))))
    have K1 : Blk w1 w.heap.size 24 #[.int .i64 m, .slice A l c] := (Blk.new' _ rfl).below hb1 (by omega)
    have d10 := K1.cellAt 0 _ rfl; have d11 := K1.cellAt 1 _ rfl; have z1 := hb1.size; simp only [World.size_alloc, World.size_setCell, World.size_drew] at z1
    go_wp2_with fail
    refine (c4 _ B1).mono ?_
    rintro e w2 ⟨rfl, hb2⟩
    have B2 := B1.trans (hb2.mono B1.size); have K2 := K1.below hb2 K1.lt; have d20 := K2.cellAt 0 _ rfl; have d21 := K2.cellAt 1 _ rfl; have z2 := B2.size
    go_wp2_with fail
    clear c1' c4 d10 d11 d20 d21
    go_loopw [3] (fun i wr => ∃ k : Nat, k ≤ l ∧ i = .int .i64 k ∧ Hid ((∀ j, j < k → (es.getD j (0, 0)).1 ≤ (es.getD j (0, 0)).2) ∧ ∀ i, i + 1 < k → beforeB (es.getD (i + 1) (0, 0)) (es.getD i (0, 0)) = false) ∧ Blk wr w.heap.size 24 #[.int .i64 m, .slice A l c] ∧ Below w.heap.size w wr) (fun i _ => l - (intOf i).toNat)
    case atStart => exact ⟨0, Nat.zero_le _, rfl, ⟨by intro j hj; omega, by intro j hj; omega⟩, K2, B2⟩
    case round =>
      obtain ⟨k, hk, rfl, hE, K, hbel⟩ := hrel
      have hsz := hbel.size
      have hsz' := K.lt
      have k0 := K.cellAt 0 _ rfl
      have k1 := K.cellAt 1 _ rfl
      have HK := Lib.hid K; clear K
      by_cases hlt : k < l
      · obtain ⟨b, off, rfl, hb, hc⟩ := (hr.below hbel).pos (by have := Hm.out; omega)
        have hc0 := (hc k (by have := Hm.out; omega)).1
        have hc1 := (hc k (by have := Hm.out; omega)).2
        obtain ⟨x, y, Hx⟩ : ∃ x y, Hid (es.getD k (0, 0) = (x, y)) := ⟨_, _, rfl⟩
        rw [Hx.out] at hc0 hc1
        dsimp only at hc0 hc1
        by_cases hgt : y < x
        · have g1 : decide (y < x) = true := by simpa using hgt
          clear hc hr
          go_wp2
          go_quiet (fail)
          go_wp2
          go_ret
          refine ⟨?_, by (repeat' (first | (with_reducible exact Below.refl _ _) | (with_reducible assumption) | (with_reducible refine Below.alloc ?_ ?_ _) | (with_reducible refine Below.drew ?_) | (with_reducible refine below_drewN ?_ _) | (with_reducible refine Below.setCell ?_ ?_ _) | (with_reducible refine Below.trans ?_ (Below.mono (by assumption) ?_)) | (first | omega | (simp only [World.size_alloc, World.size_setCell, World.size_drew]; omega) | (simp; omega) | (simp; done))))⟩
          rw [← hq.out, isGraphB_gtr k (by have := Hm.out; omega) (by rw [Hx.out]; exact hgt)]; rfl
        · have g1 : decide (y < x) = false := by simpa using hgt
          by_cases hk0 : 0 < k
          · obtain ⟨i, rfl⟩ : ∃ i, k = i + 1 := ⟨k - 1, by omega⟩
            have hd0 := (hc i (by have := Hm.out; omega)).1
            have hd1 := (hc i (by have := Hm.out; omega)).2
            clear hc hr
            obtain ⟨x', y', Hy⟩ : ∃ x y, Hid (es.getD i (0, 0) = (x, y)) := ⟨_, _, rfl⟩
            rw [Hy.out] at hd0 hd1
            dsimp only at hd0 hd1
            obtain ⟨r, Hr⟩ : ∃ r, Hid (beforeB (x, y) (x', y') = r) := ⟨_, rfl⟩
            have g2 : decide ((0 : Int) < (i : Int) + 1) = true := by simp only [decide_eq_true_eq]; omega
            have g5 : (0 : Int) < (i : Int) + 1 := by omega
            have g6 : (i : Int) + 1 < l := by omega
            rw [show (((i + 1 : Nat) : Int)) = (i : Int) + 1 by omega]
            go_wp2
            have hw1 : IntKind.i64.wrap ((i : Int) + 1 - 1) = i := by rw [show (i : Int) + 1 - 1 = i by omega]; exact IntWalk.i64_in _ (by omega)
            have hw2 : IntKind.i64.wrap (i : Int) = i := IntWalk.i64_in _ (by omega)
            have t1 : ((i : Int) + 1).toNat = i + 1 := by omega
            have b1 : (0 : Int) ≤ (i : Int) + 1 := by omega
            have b3 : (i : Int) < l := by omega
            have b4 : (0 : Int) ≤ (i : Int) := by omega
            have b5 : i < l := by omega
            go_region_held3 (fun w' => w'.cell? ⟨b, off + (i + 1) * 2, none⟩ = some (.int .i64 x) ∧ w'.cell? ⟨b, off + (i + 1) * 2 + 1, none⟩ = some (.int .i64 y) ∧ w'.cell? ⟨b, off + i * 2, none⟩ = some (.int .i64 x') ∧ w'.cell? ⟨b, off + i * 2 + 1, none⟩ = some (.int .i64 y') ∧ w'.cell? ⟨w.heap.size, 0, none⟩ = some (.int .i64 m) ∧ w'.cell? ⟨w.heap.size, 1, none⟩ = some (.slice (some ⟨b, off, none⟩) l c)) (first | go_keep | (obtain ⟨hq, _⟩ := bcell ‹Below _ _ _›; (repeat' apply And.intro) <;> (rw [hq _ _ (by first | assumption | omega | (simp; done) | (simp; omega) | (simp; assumption))] <;> (first | assumption | (simp [*]; done)))))
              (first | (go_at_call 90; refine (l01Before_b _ _ _ _ _ r Hr).mono ?_; rintro e w3 ⟨rfl, hb3⟩))
            clear hw1 hw2 t1 b1 b3 b4 b5
            cases r
            · go_wp2
              refine ⟨⟨i + 1 + 1, by omega, by go_num, ⟨?_, ?_⟩, (HK.out.drew).below hb3 hsz', by (repeat' (first | (with_reducible exact Below.refl _ _) | (with_reducible assumption) | (with_reducible refine Below.alloc ?_ ?_ _) | (with_reducible refine Below.drew ?_) | (with_reducible refine below_drewN ?_ _) | (with_reducible refine Below.setCell ?_ ?_ _) | (with_reducible refine Below.trans ?_ (Below.mono (by assumption) ?_)) | (first | omega | (simp only [World.size_alloc, World.size_setCell, World.size_drew]; omega) | (simp; omega) | (simp; done))))⟩, by simp [intOf]; omega⟩
              · intro j hj
                by_cases e : j = i + 1
                · rw [e, Hx.out]; show x ≤ y; omega
                · exact hE.out.1 j (by omega)
              · intro j hj
                by_cases e : j = i
                · subst e; rw [Hx.out, Hy.out]; exact Hr.out
                · exact hE.out.2 j (by omega)
            · go_wp2
              go_ret
              refine ⟨?_, by (repeat' (first | (with_reducible exact Below.refl _ _) | (with_reducible assumption) | (with_reducible refine Below.alloc ?_ ?_ _) | (with_reducible refine Below.drew ?_) | (with_reducible refine below_drewN ?_ _) | (with_reducible refine Below.setCell ?_ ?_ _) | (with_reducible refine Below.trans ?_ (Below.mono (by assumption) ?_)) | (first | omega | (simp only [World.size_alloc, World.size_setCell, World.size_drew]; omega) | (simp; omega) | (simp; done))))⟩
              rw [← hq.out, isGraphB_before i (by have := Hm.out; omega) (by rw [Hx.out, Hy.out]; exact Hr.out)]; rfl
          · have g2 : decide ((0 : Int) < (k : Int)) = false := by simpa using hk0
            have g3 : decide (0 < k) = false := by simpa using hk0
            have g4 : (0 : Int) ≤ (k : Int) := by omega
            clear hc hr
            go_wp2
            go_quiet (fail)
            go_wp2
            refine ⟨⟨k + 1, by omega, by go_num, ⟨?_, by intro i hi; omega⟩, HK.out, by (repeat' (first | (with_reducible exact Below.refl _ _) | (with_reducible assumption) | (with_reducible refine Below.alloc ?_ ?_ _) | (with_reducible refine Below.drew ?_) | (with_reducible refine below_drewN ?_ _) | (with_reducible refine Below.setCell ?_ ?_ _) | (with_reducible refine Below.trans ?_ (Below.mono (by assumption) ?_)) | (first | omega | (simp only [World.size_alloc, World.size_setCell, World.size_drew]; omega) | (simp; omega) | (simp; done))))⟩, by simp [intOf]; omega⟩
            intro j hj
            obtain rfl : j = k := by omega
            rw [Hx.out]; show x ≤ y; omega
      · obtain rfl : k = l := by omega
        go_wp2
        go_ret
        refine ⟨?_, hbel⟩
        rw [← hq.out, isGraphB_yes h1.out (by rw [Int.toNat_natCast]; exact h4.out) (fun j hj => hE.out.1 j (by have := Hm.out; omega)) (fun j hj => hE.out.2 j (by have := Hm.out; omega))]; rfl
end Go.Proofs.Ytblidpodbpoaeaa
