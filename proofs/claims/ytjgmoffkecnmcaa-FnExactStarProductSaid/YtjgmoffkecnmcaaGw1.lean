/- slices.Grow at the nil slice of edges; slices.Concat of two slices of edges. No statement of the program is proved here. -/
import Derived.Test.YtjgmoffkecnmcaaGo1
import Derived.Lib.AppendZerosOnto
import Derived.Laws.Append
import Derived.Laws.AppendOwn
namespace Go.Proofs.Ytjgmoffkecnmcaa
open Go.RowKit Go.Lib
set_option linter.unusedSimpArgs false
set_option linter.unusedVariables false
set_option maxRecDepth 20000

set_option maxHeartbeats 4000000 in
theorem growE_b (n : Nat) (w : World) (hn : n ≤ 100000) :
    Calls Try.prog 49 #[.slice none 0 0, .int .i64 n] w fun e w' => ∃ A c', e = .returned (.slice A 0 c') ∧ w'.ownsRow w.heap.size 45 2 (.slice A 0 c') 0 (cE []) ∧ Below w.heap.size w w' := by
  rcases Nat.eq_zero_or_pos n with h0 | hpos
  · subst h0
    go_enter Try.func49, Try.ntmps49
    go_wp2
    go_ret
    exact ⟨none, 0, rfl, own_nilE _ _ _, Below.refl _ _⟩
  · obtain ⟨i0, hi0, hz0, hz1, hz2⟩ := info_parts infoE
    have hrz : ∀ ty, (Builtin.append_ #[26, 3] ty #[.slice none 0 0, .int .i64 (n : Int)]).run Try.prog w =
        .ok (.slice (some ⟨w.heap.size, 0, none⟩) n (grownCap w n 0 45)) (w.drew.alloc (.cells (#[] ++ Builtin.zeroCells (Value.cells (.agg #[.int .i64 0, .int .i64 0])) n ++ Builtin.zeroCells (Value.cells (.agg #[.int .i64 0, .int .i64 0])) (grownCap w n 0 45 - n)) 45)) := fun ty => by
      have h := run_append_grow_zeros w 26 3 ty 45 i0 (.agg #[.int .i64 0, .int .i64 0]) .i64 .i64 Try.underlying26 Try.underlying3 hi0 hz0 none 0 0 [] (run_firstCells_none _ _ _ _ _) n hpos (by omega) (by omega) (by omega) (by rw [hz2]; omega) (growslice_fits (by omega) (by rw [hz2]; omega))
      simpa using h
    have hG := grownCap_ge w n 0 45
    have hG2 := grownCap_le_maxLen w n 0 45 (by unfold maxLen; omega)
    obtain ⟨G, HG⟩ : ∃ G, Hid (grownCap w n 0 45 = G) := ⟨_, rfl⟩
    rw [HG.out] at hrz hG hG2
    have hGp : 0 < G := by omega
    have hGm : G ≤ 9223372036854775807 := by unfold maxLen at hG2; omega
    have Hg := Lib.hid hG2
    have hn0 : ¬ ((n : Int) < 0) := by omega
    have hn1 : (n : Int) > 0 := by omega
    clear hi0 hz0 hz1 hz2 hG2
    have hsz : (#[] ++ Builtin.zeroCells (Value.cells (.agg #[.int .i64 0, .int .i64 0])) n ++ Builtin.zeroCells (Value.cells (.agg #[.int .i64 0, .int .i64 0])) (G - n)).size = G * 2 := by
      rw [Array.size_append, Array.size_append, size_zeroCells, size_zeroCells]
      show 0 + n * 2 + (G - n) * 2 = G * 2
      omega
    generalize (#[] ++ Builtin.zeroCells (Value.cells (.agg #[.int .i64 0, .int .i64 0])) n ++ Builtin.zeroCells (Value.cells (.agg #[.int .i64 0, .int .i64 0])) (G - n)) = cs at *
    have Hcz := Lib.hid hsz
    clear hsz
    go_enter Try.func49, Try.ntmps49
    go_wp2_with (at_builtin; refine Lib.wpList_append_run _ rfl _ _ _ _ rfl _ _ rfl rfl _ _ (hrz _) ?_)
    go_ret
    refine ⟨some ⟨w.heap.size, 0, none⟩, G, rfl, ⟨rfl, .inr ⟨w.heap.size, G, cs, rfl, Nat.le_refl _, ?_, Nat.zero_le _, Hg.out, Hcz.out, by simp [cE]⟩⟩, by (repeat' (first | (with_reducible exact Below.refl _ _) | (with_reducible assumption) | (with_reducible refine Below.alloc ?_ ?_ _) | (with_reducible refine Below.drew ?_) | (with_reducible refine below_drewN ?_ _) | (with_reducible refine Below.setCell ?_ ?_ _) | (with_reducible refine Below.trans ?_ (Below.mono (by assumption) ?_)) | (first | omega | (simp only [World.size_alloc, World.size_setCell, World.size_drew]; omega) | (simp; omega) | (simp; done))))⟩
    exact Blk.new' (n := w.heap.size) _ rfl

/-- How much stands behind k slices. -/
def pre2 (es hs : List (Int × Int)) (k : Nat) : List (Int × Int) := if k = 0 then [] else if k = 1 then es else es ++ hs
set_option maxHeartbeats 4000000 in
theorem concat2_b (g c A1c A2c : Nat) (A1 A2 : Option Addr) (es hs : List (Int × Int)) (w : World) (h1 : 0 < es.length) (h2 : 0 < hs.length) (hl1 : es.length ≤ 1000) (hl2 : hs.length ≤ 1000) (hg : Blk w g 26 #[.slice A1 es.length A1c, .slice A2 hs.length A2c]) (hr1 : RdE w A1 es) (hr2 : RdE w A2 hs) :
    Calls Try.prog 26 #[.slice (some ⟨g, 0, none⟩) 2 c] w fun e w' => ∃ A c', e = .returned (.slice A (es.length + hs.length) c') ∧ w'.ownsRow w.heap.size 45 2 (.slice A (es.length + hs.length) c') (es.length + hs.length) (cE (es ++ hs)) ∧ Below w.heap.size w w' := by
  obtain ⟨b1, o1, rfl, hb1, _⟩ := hr1.pos h1
  obtain ⟨b2, o2, rfl, hb2, _⟩ := hr2.pos h2
  have Hr1 := Lib.hid hr1
  have Hr2 := Lib.hid hr2
  have Hg := Lib.hid hg
  obtain ⟨L, HL⟩ : ∃ L, Hid (es.length = L) := ⟨_, rfl⟩
  obtain ⟨M, HM⟩ : ∃ L, Hid (hs.length = L) := ⟨_, rfl⟩
  have hc0 := hg.cellAt 0 _ rfl
  have hc1 := hg.cellAt 1 _ rfl
  rw [HL.out] at hl1 hc0 ⊢
  rw [HM.out] at hl2 hc1 ⊢
  rw [HL.out, HM.out] at Hg
  have Hlm : Hid (L ≤ 1000 ∧ M ≤ 1000) := ⟨hl1, hl2⟩
  have cg := growE_b (L + M) w (by omega)
  rw [Int.natCast_add] at cg
  have cg := Lib.hid cg
  have zg := hg.lt
  clear hr1 hr2 hg h1 h2
  go_enter Try.func26, Try.ntmps26
  go_wp2
  go_loopw [3, 11] (fun z i wr => ∃ k : Nat, k ≤ 2 ∧ i = .int .i64 k ∧ z = .int .i64 ((if k = 0 then 0 else if k = 1 then L else L + M : Nat) : Int) ∧ w = wr) (fun _ i _ => 2 - (intOf i).toNat)
  case atStart => exact ⟨0, by omega, rfl, rfl, rfl⟩
  case round =>
    obtain ⟨k, hk, rfl, rfl, rfl⟩ := hrel
    by_cases hk0 : k = 0
    · subst hk0
      go_wp2
      exact ⟨⟨1, by omega, by go_num, by simp, trivial⟩, by simp [intOf]⟩
    · by_cases hk1 : k = 1
      · subst hk1
        go_wp2
        exact ⟨⟨2, by omega, by go_num, by simp, trivial⟩, by simp [intOf]⟩
      · obtain rfl : k = 2 := by omega
        go_wp2_with fail
        refine cg.out.mono ?_
        rintro e w1 ⟨A3, c3, rfl, hown1, hb1⟩
        have Ho1 := Lib.hid hown1
        have Hb1 := Lib.hid hb1
        clear hown1 hb1 hc0 hc1 cg hk0 hk1
        go_wp2_with fail
        go_loopw [6, 27] (fun s i wr => ∃ k : Nat, k ≤ 2 ∧ i = .int .i64 k ∧ Hid (wr.ownsRow w.heap.size 45 2 s (pre2 es hs k).length (cE (pre2 es hs k))) ∧ Hid (Below w.heap.size w wr)) (fun _ i _ => 2 - (intOf i).toNat)
        case atStart => exact ⟨0, by omega, rfl, Ho1, Hb1⟩
        case round =>
          clear Ho1 Hb1
          obtain ⟨k, hk, rfl, Hown, Hbel⟩ := hrel
          obtain ⟨A4, c4, rfl⟩ := own_form Hown.out
          have hsz := Hbel.out.size
          have K := Hg.out.below Hbel.out zg
          have hd0 := K.cellAt 0 _ rfl
          have hd1 := K.cellAt 1 _ rfl
          have hlm := Hlm.out
          have hr1 := Hr1.out.below Hbel.out
          have hr2 := Hr2.out.below Hbel.out
          clear K
          by_cases hk0 : k = 0
          · subst hk0
            go_wp2_with (first
              | (at_builtin; refine wpList_appendE rfl rfl w.heap.size _ 0 [] rfl Hown.out b1 o1 L A1c es rfl HL.out hr1 (by omega) (by omega) hsz ?_))
            intro v3 w3 hown3 hfr3 _
            obtain ⟨A5, c5, rfl⟩ := own_form hown3
            have Hb3 : Hid (Below w.heap.size w w3) := hfr3 w.heap.size w (Nat.le_refl _) Hbel.out
            have Hown3 : Hid (w3.ownsRow w.heap.size 45 2 (.slice A5 L c5) (pre2 es hs 1).length (cE (pre2 es hs 1))) := by
              show World.ownsRow _ _ _ _ _ _ _
              have e1 : pre2 es hs 1 = es := rfl
              rw [e1, HL.out]
              exact hown3
            clear hown3 hfr3 Hown Hbel hd0 hd1 hr1 hr2
            go_wp2
            exact ⟨⟨1, by omega, by go_num, Hown3, Hb3⟩, by simp [intOf]⟩
          · by_cases hk1 : k = 1
            · subst hk1
              have Ho2 : Hid (wr.ownsRow w.heap.size 45 2 (.slice A4 L c4) L (cE es)) := by
                have h := Hown.out
                have e1 : pre2 es hs 1 = es := rfl
                rw [e1, HL.out] at h
                exact h
              have e2 : (pre2 es hs 1).length = L := HL.out
              simp only [e2]
              clear e2
              go_wp2_with (first
                | (at_builtin; refine wpList_appendE rfl rfl w.heap.size _ L es rfl Ho2.out b2 o2 M A2c hs rfl HM.out hr2 (by omega) (by omega) hsz ?_))
              intro v3 w3 hown3 hfr3 _
              obtain ⟨A5, c5, rfl⟩ := own_form hown3
              have Hb3 : Hid (Below w.heap.size w w3) := hfr3 w.heap.size w (Nat.le_refl _) Hbel.out
              have Hown3 : Hid (w3.ownsRow w.heap.size 45 2 (.slice A5 (L + M) c5) (pre2 es hs 2).length (cE (pre2 es hs 2))) := by
                show World.ownsRow _ _ _ _ _ _ _
                have e1 : pre2 es hs 2 = es ++ hs := rfl
                rw [e1, List.length_append, HL.out, HM.out]
                exact hown3
              clear hown3 hfr3 Hown Ho2 Hbel hd0 hd1 hr1 hr2 hk0
              go_wp2
              exact ⟨⟨2, by omega, by go_num, Hown3, Hb3⟩, by simp [intOf]⟩
            · obtain rfl : k = 2 := by omega
              have Ho2 : Hid (wr.ownsRow w.heap.size 45 2 (.slice A4 (L + M) c4) (L + M) (cE (es ++ hs))) := by
                have h := Hown.out
                have e1 : pre2 es hs 2 = es ++ hs := rfl
                rw [e1, List.length_append, HL.out, HM.out] at h
                exact h
              have e2 : (pre2 es hs 2).length = L + M := by show (es ++ hs).length = _; rw [List.length_append, HL.out, HM.out]
              simp only [e2]
              clear e2 hk0 hk1 hd0 hd1 hr1 hr2
              go_wp2
              go_ret
              exact ⟨A4, c4, rfl, Ho2.out, Hbel.out⟩
end Go.Proofs.Ytjgmoffkecnmcaa
