/- The parts of what is left of a graph. No statement of the program is proved here. -/
import Derived.Test.YtigdfcigoejjjaaDi2
import Derived.Test.YtigdfcigoejjjaaLl1
import Derived.Test.YtigdfcigoejjjaaCn4
namespace Go.Proofs.Ytigdfcigoejjjaa
open Go.RowKit
set_option linter.unusedSimpArgs false
set_option linter.unusedVariables false
set_option maxRecDepth 20000

theorem bit_one (S u j : Nat) : (S ||| 2 ^ u).testBit j = (S.testBit j || decide (j = u)) := by
  rw [Nat.testBit_or, Nat.testBit_two_pow]
  congr 1
  rw [decide_eq_decide]
  exact ⟨Eq.symm, Eq.symm⟩
/-- The bits of those seen. -/
def SeenS (es : List (Int × Int)) (p : Nat → Bool) (N k S : Nat) : Prop := S < 2 ^ 60 ∧ ∀ u, u < N → (S.testBit u = true ↔ Seen es p k u)
def SeenT (es : List (Int × Int)) (p : Nat → Bool) (N k j S T : Nat) : Prop := T < 2 ^ 60 ∧ ∀ u, u < N → (T.testBit u = true ↔ (S.testBit u = true ∨ (u < j ∧ Conn es p k u)))
theorem seenT_end {es : List (Int × Int)} {p : Nat → Bool} {N k S T : Nat} (h : SeenS es p N k S) (h2 : SeenT es p N k N S T) : SeenS es p N (k + 1) T := by
  refine ⟨h2.1, fun u hu => ?_⟩
  rw [h2.2 u hu, seen_succ, h.2 u hu]
  constructor
  · rintro (h | ⟨_, h⟩)
    · exact .inl h
    · exact .inr h
  · rintro (h | h)
    · exact .inl h
    · exact .inr ⟨hu, h⟩
theorem seenT_no {es : List (Int × Int)} {p : Nat → Bool} {N k j S T : Nat} (h : SeenT es p N k j S T) (hn : ¬ Conn es p k j) : SeenT es p N k (j + 1) S T := by
  refine ⟨h.1, fun u hu => ?_⟩
  rw [h.2 u hu]
  constructor
  · rintro (h | ⟨h1, h2⟩)
    · exact .inl h
    · exact .inr ⟨by omega, h2⟩
  · rintro (h | ⟨h1, h2⟩)
    · exact .inl h
    · by_cases e : u = j
      · subst e; exact absurd h2 hn
      · exact .inr ⟨by omega, h2⟩
theorem seenT_yes {es : List (Int × Int)} {p : Nat → Bool} {N k j S T : Nat} (h : SeenT es p N k j S T) (hj : j < 60) (hn : Conn es p k j) : SeenT es p N k (j + 1) S (T ||| 2 ^ j) := by
  refine ⟨Nat.or_lt_two_pow h.1 (Nat.pow_lt_pow_right (by decide) hj), fun u hu => ?_⟩
  rw [bit_one, Bool.or_eq_true, h.2 u hu, decide_eq_true_eq]
  constructor
  · rintro ((h | ⟨h1, h2⟩) | rfl)
    · exact .inl h
    · exact .inr ⟨by omega, h2⟩
    · exact .inr ⟨by omega, hn⟩
  · rintro (h | ⟨h1, h2⟩)
    · exact .inl (.inl h)
    · by_cases e : u = j
      · exact .inr e
      · exact .inl (.inr ⟨by omega, h2⟩)
set_option maxHeartbeats 4000000 in
theorem sides_b (N : Nat) (A : Option Addr) (c : Nat) (es : List (Int × Int)) (out : Nat) (w : World) (hN : N ≤ 60) (hout : out < 2 ^ 63) (hl : es.length ≤ 60) (hin : InN N es) (hr : RdE w A es) :
    Calls Try.prog 74 #[.agg #[.int .i64 N, .slice A es.length c], .int .u64 out] w fun e w' => ∃ v, e = .returned v ∧ OwnLL w' w.heap.size v (sidesL es (pS out) N N) ∧ Below w.heap.size w w' := by
  have cd := Lib.hid fun (s : Nat) (hs : s < N) W (hW : Below w.heap.size w W) => distances_b N A c es s out W (by omega) hs hout hl hin (hr.below hW)
  clear hr hin hl hout
  generalize es.length = L at *
  obtain ⟨O, HO⟩ : ∃ O : Int, Hid ((out : Int) = O) := ⟨_, rfl⟩
  simp only [HO.out] at cd ⊢
  go_enter Try.func74, Try.ntmps74
  go_wp2
  go_loopw [5, 6, 13] (fun lv sv iv wr => ∃ (k S : Nat), k ≤ N ∧ iv = .int .i64 k ∧ sv = .int .u64 S ∧ Hid (SeenS es (pS out) N k S) ∧ Hid (OwnLL wr (w.heap.size + 1) lv (sidesL es (pS out) N k)) ∧ Hid (Blk wr w.heap.size 32 #[.int .i64 (N : Int), .slice A L c]) ∧ Hid (Below w.heap.size w wr)) (fun _ _ iv _ => N - (intOf iv).toNat)
  case atStart => exact ⟨0, 0, Nat.zero_le _, rfl, rfl, ⟨by decide, fun u hu => ⟨fun h => by simp at h, fun ⟨v, hv, _⟩ => by omega⟩⟩, OwnLL.nil _ _, Blk.new w _ _, by show Below _ _ _; (repeat' (first | (with_reducible exact Below.refl _ _) | (with_reducible assumption) | (with_reducible refine Below.alloc ?_ ?_ _) | (with_reducible refine Below.drew ?_) | (with_reducible refine below_drewN ?_ _) | (with_reducible refine Below.setCell ?_ ?_ _) | (with_reducible refine Below.trans ?_ (Below.mono (by assumption) ?_)) | (first | omega | (simp only [World.size_alloc, World.size_setCell, World.size_drew]; omega) | (simp; omega) | (simp; done))))⟩
  case round =>
    obtain ⟨k, S, hk, rfl, rfl, HS, HL, HK, HBel⟩ := hrel
    by_cases hlt : k < N
    · obtain ⟨qb, Hqb⟩ : ∃ qb, Hid (S.testBit k = qb) := ⟨_, rfl⟩
      have hS60 := HS.out.1
      have chb := has_b k S wr qb Hqb (by omega) (Nat.lt_trans hS60 (by decide))
      clear hS60
      obtain ⟨ek, ek2, ek3⟩ := idxF k N hlt
      go_wp2_with fail
      refine chb.mono ?_
      rintro e w1 ⟨rfl, rfl⟩
      cases qb
      · have hnl : Least es (pS out) k := by
          rw [← seen_least]
          intro h
          have := (HS.out.2 k hlt).2 h
          rw [Hqb.out] at this; cases this
        have Hsl := Lib.hid ((sidesL_succ es (pS out) N k).1 hnl)
        have hwl := HK.out.lt
        have k00 := HK.out.cellAt 0 _ rfl
        have k01 := HK.out.cellAt 1 _ rfl
        clear hnl
        go_wp2_with fail
        refine (cd.out k hlt _ HBel.out).mono ?_
        rintro e w2 ⟨g, rfl, far, hfar, hown, hb2⟩
        have HR := Lib.hid (own_rdI hown)
        have Hfar := Lib.hid hfar
        have HL2 := Lib.hid (HL.out.below hb2 (Nat.le_refl _))
        have HK2 := Lib.hid (HK.out.below hb2 hwl)
        have HB2 := Lib.hid (HBel.out.trans (hb2.mono HBel.out.size))
        have hs2 := hb2.size
        clear hfar hown hb2 HL HK k00 k01
        go_wp2_with fail
        go_loopw [6, 8, 24] (fun sv dv iv wx => ∃ (j T : Nat), j ≤ N ∧ iv = .int .i64 j ∧ sv = .int .u64 T ∧ Hid (SeenT es (pS out) N k j S T) ∧ Hid (wx.ownsRow w2.heap.size 2 1 dv (sideL es (pS out) k j).length (cI (sideL es (pS out) k j))) ∧ Hid (Below w2.heap.size w2 wx)) (fun _ _ iv _ => N - (intOf iv).toNat)
        case atStart => exact ⟨0, S, Nat.zero_le _, rfl, rfl, ⟨HS.out.1, fun u hu => ⟨fun h => .inl h, fun h => by rcases h with h | ⟨h, _⟩; exact h; omega⟩⟩, World.ownsRow_nil _ _ _ _, by show Below _ _ _; exact Below.refl _ _⟩
        case round =>
          obtain ⟨j, T, hj, rfl, rfl, HT, Hown, Hbel⟩ := hrel
          obtain ⟨A', c', rfl⟩ := own_form Hown.out
          by_cases hlt2 : j < N
          · obtain ⟨ej, ej2, ej3⟩ := idxF j N hlt2
            obtain ⟨b9, o9, e9, hb9, hc9⟩ := (HR.out.below Hbel.out).pos (by rw [Hfar.out.1]; omega)
            injection e9 with e9; injection e9 with e9 e10 _
            subst e9; subst e10
            have hcj := hc9 j (by rw [Hfar.out.1]; exact hlt2)
            have Hcn := Lib.hid (Hfar.out.2 j hlt2)
            obtain ⟨x, Hx⟩ : ∃ x, Hid (far.getD j 0 = x) := ⟨_, rfl⟩
            rw [Hx.out] at hcj Hcn
            rw [Nat.zero_add] at hcj
            have hsz := Hbel.out.size
            clear hc9
            by_cases hx : 0 ≤ x
            · have hn := Hcn.out.1 hx
              have HT2 := Lib.hid (seenT_yes HT.out (by omega) hn)
              have Hs2 := Lib.hid ((sideL_succ es (pS out) k j).1 hn)
              have e1 := wrapU_pow (show j < 64 by omega)
              have e2 := orU (Nat.lt_trans HT.out.1 (by decide)) (Nat.pow_lt_pow_right (by decide) (show j < 64 by omega) : 2 ^ j < 2 ^ 64)
              have hown2 := own_below Hown.out (show Below wr.heap.size wr (wr.alloc (.cells #[.int .i64 (j : Int)] 2)) by (repeat' (first | (with_reducible exact Below.refl _ _) | (with_reducible assumption) | (with_reducible refine Below.alloc ?_ ?_ _) | (with_reducible refine Below.drew ?_) | (with_reducible refine below_drewN ?_ _) | (with_reducible refine Below.setCell ?_ ?_ _) | (with_reducible refine Below.trans ?_ (Below.mono (by assumption) ?_)) | (first | omega | (simp only [World.size_alloc, World.size_setCell, World.size_drew]; omega) | (simp; omega) | (simp; done)))))
              have hB3 : Below w2.heap.size w2 (wr.alloc (.cells #[.int .i64 (j : Int)] 2)) := by have := Hbel.out; (repeat' (first | (with_reducible exact Below.refl _ _) | (with_reducible assumption) | (with_reducible refine Below.alloc ?_ ?_ _) | (with_reducible refine Below.drew ?_) | (with_reducible refine below_drewN ?_ _) | (with_reducible refine Below.setCell ?_ ?_ _) | (with_reducible refine Below.trans ?_ (Below.mono (by assumption) ?_)) | (first | omega | (simp only [World.size_alloc, World.size_setCell, World.size_drew]; omega) | (simp; omega) | (simp; done))))
              have hsj := sideL_le es (pS out) k j
              obtain ⟨ss, Hss⟩ : ∃ ss, Hid (sideL es (pS out) k j = ss) := ⟨_, rfl⟩
              rw [Hss.out] at hown2 hsj Hs2
              rw [Hss.out]
              clear hn
              go_wp2_with (first
                | (at_builtin; refine wpList_append1 rfl rfl w2.heap.size _ ss.length ss rfl hown2 ⟨wr.heap.size, 0, none⟩ 1 (j : Int) rfl (by simp) (by omega) (by simp; omega) ?_))
              intro g9 c9 w3 hown3 hfr
              have Hb3 : Hid (Below w2.heap.size w2 w3) := hfr w2.heap.size w2 (Nat.le_refl _) hB3
              have Hown3 : Hid (w3.ownsRow w2.heap.size 2 1 (.slice (some ⟨g9, 0, none⟩) (ss.length + 1) c9) (sideL es (pS out) k (j + 1)).length (cI (sideL es (pS out) k (j + 1)))) := by
                show World.ownsRow _ _ _ _ _ _ _
                rw [Hs2.out, List.length_append]
                exact hown3
              clear hown3 hfr hown2 hB3 hcj
              go_wp2
              refine ⟨⟨j + 1, T ||| 2 ^ j, by omega, by go_num, ?_, HT2, Hown3, Hb3⟩, by simp [intOf]; omega⟩
              rw [← e2]; simp
            · have hn := fun h => hx (Hcn.out.2 h)
              have HT2 := Lib.hid (seenT_no HT.out hn)
              have Hs2 := Lib.hid ((sideL_succ es (pS out) k j).2 hn)
              clear hn
              go_wp2
              refine ⟨⟨j + 1, T, by omega, by go_num, rfl, HT2, ?_, Hbel⟩, by simp [intOf]; omega⟩
              show World.ownsRow _ _ _ _ _ _ _
              rw [Hs2.out]; exact Hown.out
          · obtain rfl : N = j := by omega
            have HS2 := Lib.hid (seenT_end HS.out HT.out)
            have hlen := sideL_le es (pS out) k N
            have hlen2 := sidesL_le es (pS out) N k
            have hsz := Hbel.out.size
            have hsz0 := HB2.out.size
            have hab : Below wr.heap.size wr (wr.alloc (.cells #[.slice A' (sideL es (pS out) k N).length c'] 25)) := by (repeat' (first | (with_reducible exact Below.refl _ _) | (with_reducible assumption) | (with_reducible refine Below.alloc ?_ ?_ _) | (with_reducible refine Below.drew ?_) | (with_reducible refine below_drewN ?_ _) | (with_reducible refine Below.setCell ?_ ?_ _) | (with_reducible refine Below.trans ?_ (Below.mono (by assumption) ?_)) | (first | omega | (simp only [World.size_alloc, World.size_setCell, World.size_drew]; omega) | (simp; omega) | (simp; done))))
            have HT3 := Lib.hid (own_below Hown.out hab)
            obtain ⟨top, htop, HLD⟩ := HL2.out
            have HL3 := Lib.hid ((HLD.below Hbel.out (Nat.le_refl _)).below hab (Nat.le_refl _))
            have htw : w.heap.size + 1 ≤ w2.heap.size := HK2.out.lt
            have HK3 := Lib.hid ((HK2.out.below Hbel.out HK2.out.lt).alloc (.cells #[.slice A' (sideL es (pS out) k N).length c'] 25))
            have HB3 : Hid (Below w.heap.size w (wr.alloc (.cells #[.slice A' (sideL es (pS out) k N).length c'] 25))) := (HB2.out.trans (Hbel.out.mono hsz0)).trans (hab.mono (by omega))
            obtain ⟨ss, Hss⟩ : ∃ ss, Hid (sideL es (pS out) k N = ss) := ⟨_, rfl⟩
            obtain ⟨sl, Hsl2⟩ : ∃ sl, Hid (sidesL es (pS out) N k = sl) := ⟨_, rfl⟩
            rw [Hss.out] at hab HT3 HL3 HK3 HB3 hlen Hsl
            rw [Hsl2.out] at HL3 hlen2 Hsl
            rw [Hss.out]
            clear hab
            go_wp2_with (first
              | (at_builtin; refine wpList_appendLL rfl rfl (w.heap.size + 1) top w2.heap.size _ sl rfl HL3.out htop htw ⟨wr.heap.size, 0, none⟩ 1 _ ss rfl (by simp) HT3.out (by omega) (by simp; omega) ?_))
            intro v' w3 hL4 hfr _
            have HL4 : Hid (OwnLL w3 (w.heap.size + 1) v' (sidesL es (pS out) N (k + 1))) := by
              show OwnLL _ _ _ _
              rw [Hsl.out]; exact hL4
            have HK4 := Lib.hid (HK3.out.below (hfr (w.heap.size + 1) _ (Nat.le_refl _) (Below.refl _ _)) (by omega))
            have HB4 := Lib.hid (hfr w.heap.size w (by omega) HB3.out)
            clear hL4 hfr
            go_wp2
            exact ⟨⟨k + 1, T, by omega, by go_num, rfl, HS2, HL4, HK4, HB4⟩, by simp [intOf]; omega⟩
      · have hsn : Seen es (pS out) k k := (HS.out.2 k hlt).1 Hqb.out
        have Hsl := Lib.hid ((sidesL_succ es (pS out) N k).2 (fun h => (seen_least es (pS out) k).2 h hsn))
        have HS2 : Hid (SeenS es (pS out) N (k + 1) S) := ⟨HS.out.1, fun u hu => (HS.out.2 u hu).trans (seen_old hsn u).symm⟩
        clear hsn
        go_wp2
        refine ⟨⟨k + 1, S, by omega, by go_num, rfl, HS2, ?_, HK, HBel⟩, by simp [intOf]; omega⟩
        show OwnLL _ _ _ _
        rw [Hsl.out]; exact HL.out
    · obtain rfl : N = k := by omega
      go_wp2
      go_ret
      exact ⟨_, rfl, HL.out.mono (by omega), HBel.out⟩
end Go.Proofs.Ytigdfcigoejjjaa
