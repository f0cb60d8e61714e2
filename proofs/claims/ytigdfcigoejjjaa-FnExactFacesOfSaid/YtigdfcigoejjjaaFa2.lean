/- The reference's next edge at a vertex of a rotation. No statement of the program is proved here. -/
import Derived.Test.YtigdfcigoejjjaaFa1
import Derived.Test.YtigdfcigoejjjaaLa
namespace Go.Proofs.Ytigdfcigoejjjaa
open Go.RowKit
set_option linter.unusedSimpArgs false
set_option linter.unusedVariables false
set_option maxRecDepth 20000

/-- A list is a rotation of n vertices. -/
def IsRot (n : Int) (rot : List Int) : Prop := rot.length = n.toNat ∧ ∀ v, v < n.toNat → rot.getD v 0 = 0 ∨ rot.getD v 0 = 1
theorem pos_facts {n : Int} {es : List (Int × Int)} {rot : List Int} (h : isGraphB n es = true) (hr : IsRot n rot) {d : Nat} (hd : d < 2 * es.length) :
    ∃ (X : List Int) (p v r : Nat), atL es (endD es d) = X ∧ X.length = 3 ∧ p < 3 ∧ X.getD p 0 = ((d / 2 : Nat) : Int) ∧ (∀ j, j < p → X.getD j 0 ≠ ((d / 2 : Nat) : Int)) ∧ (∀ j, j < 3 → ∃ i : Nat, X.getD j 0 = (i : Int) ∧ i < es.length) ∧
      endD es d = (v : Int) ∧ v < n.toNat ∧ rot.getD v 0 = (r : Int) ∧ r < 2 ∧ ((nextE es rot d : Nat) : Int) = X.getD ((p + 1 + r) % 3) 0 := by
  obtain ⟨a, b, c, hat, hab, hbc, hcl, hpos⟩ := posD_at h hd
  have hv := inB_true.1 (endD_in h hd)
  have hn := isGraphB_n h
  obtain ⟨v, hv2⟩ : ∃ v : Nat, endD es d = (v : Int) := ⟨(endD es d).toNat, by omega⟩
  have hvn : v < n.toNat := by omega
  obtain ⟨r, hr2, hr3⟩ : ∃ r : Nat, rot.getD v 0 = (r : Int) ∧ r < 2 := by
    rcases hr.2 v hvn with e | e
    · exact ⟨0, e, by omega⟩
    · exact ⟨1, e, by omega⟩
  have hnx : ∀ p : Nat, posD (atL es (endD es d)) ((d / 2 : Nat) : Int) = p → ((nextE es rot d : Nat) : Int) = [(a : Int), (b : Int), (c : Int)].getD ((p + 1 + r) % 3) 0 := by
    intro p hp
    unfold nextE
    rw [hp, hv2, Int.toNat_natCast, hr2, Int.toNat_natCast, ← hv2, hat]
    have h3 : (p + 1 + r) % 3 = 0 ∨ (p + 1 + r) % 3 = 1 ∨ (p + 1 + r) % 3 = 2 := by omega
    rcases h3 with e | e | e <;> rw [e] <;> simp
  have hall : ∀ j, j < 3 → ∃ i : Nat, [(a : Int), (b : Int), (c : Int)].getD j 0 = (i : Int) ∧ i < es.length := by
    intro j hj
    have : j = 0 ∨ j = 1 ∨ j = 2 := by omega
    rcases this with rfl | rfl | rfl
    · exact ⟨a, rfl, by omega⟩
    · exact ⟨b, rfl, by omega⟩
    · exact ⟨c, rfl, by omega⟩
  rcases hpos with ⟨h1, h2⟩ | ⟨h1, h2⟩ | ⟨h1, h2⟩
  · exact ⟨_, 0, v, r, hat, rfl, by omega, by simp [h1], fun j hj => by omega, hall, hv2, hvn, hr2, hr3, hnx 0 h2⟩
  · refine ⟨_, 1, v, r, hat, rfl, by omega, by simp [h1], fun j hj => ?_, hall, hv2, hvn, hr2, hr3, hnx 1 h2⟩
    obtain rfl : j = 0 := by omega
    simp only [List.getD_cons_zero]; omega
  · refine ⟨_, 2, v, r, hat, rfl, by omega, by simp [h1], fun j hj => ?_, hall, hv2, hvn, hr2, hr3, hnx 2 h2⟩
    have : j = 0 ∨ j = 1 := by omega
    rcases this with rfl | rfl
    · simp only [List.getD_cons_zero]; omega
    · simp only [List.getD_cons_zero, List.getD_cons_succ]; omega

set_option maxHeartbeats 4000000 in
theorem l07Next_b (n : Int) (A : Option Addr) (c : Nat) (es : List (Int × Int)) (B : Option Addr) (cb : Nat) (rot : List Int) (d e0 : Nat) (w : World) (hg : isGraphB n es = true) (hd : d < 2 * es.length) (hrot : IsRot n rot) (he : d / 2 = e0) (hl : es.length ≤ 1000) (hr : RdE w A es) (hx : RdI w B rot) :
    Calls Try.prog 64 #[.agg #[.int .i64 n, .slice A es.length c], .slice B rot.length cb, .int .i64 e0, .int .i64 (endD es d)] w fun e w' => e = .returned (.int .i64 (nextE es rot d : Nat)) ∧ Below w.heap.size w w' := by
  obtain ⟨X, p, v, r, hX, hX3, hp, hXp, hXn, hXi, hv, hvn, hrv, hr2, hnx⟩ := pos_facts hg hrot hd
  have ca := Lib.hid fun W (hW : Below w.heap.size w W) => l01At_b n A c es (endD es d) W hl (hr.below hW)
  rw [hv] at hX
  simp only [hv, hX, hX3] at ca
  rw [hv, hnx]
  rw [he] at hXp hXn
  have hrl : rot.length = n.toNat := hrot.1
  have Hx := Lib.hid fun W (hW : Below w.heap.size w W) => hx.below hW
  obtain ⟨M, HM⟩ : ∃ M, Hid (rot.length = M) := ⟨_, rfl⟩
  have hvM : v < M := by rw [← HM.out]; omega
  simp only [HM.out]
  have HXp := Lib.hid hXp
  have HXn := Lib.hid hXn
  have HX3 := Lib.hid hX3
  have Hrv := Lib.hid hrv
  have Hvl : Hid (v < rot.length) := by show _ < _; rw [HM.out]; exact hvM
  clear hr hx hg hd hrot hl hX hX3 hXp hXn hXi hv hvn hnx he hrl hrv
  generalize es.length = L at *
  obtain ⟨ev, ev2, ev3⟩ := idxF v M hvM
  have hp3 := hp
  go_enter Try.func64, Try.ntmps64
  go_wp2_with fail
  refine (ca.out _ (by (repeat' (first | (with_reducible exact Below.refl _ _) | (with_reducible assumption) | (with_reducible refine Below.alloc ?_ ?_ _) | (with_reducible refine Below.drew ?_) | (with_reducible refine below_drewN ?_ _) | (with_reducible refine Below.setCell ?_ ?_ _) | (with_reducible refine Below.trans ?_ (Below.mono (by assumption) ?_)) | (first | omega | (simp only [World.size_alloc, World.size_setCell, World.size_drew]; omega) | (simp; omega) | (simp; done)))))).mono ?_
  rintro e w1 ⟨A1, c1, rfl, hown1, hb1⟩
  have HR1 := Lib.hid (own_rdI hown1)
  have hb1' : Below w.heap.size w w1 := by (repeat' (first | (with_reducible exact Below.refl _ _) | (with_reducible assumption) | (with_reducible refine Below.alloc ?_ ?_ _) | (with_reducible refine Below.drew ?_) | (with_reducible refine below_drewN ?_ _) | (with_reducible refine Below.setCell ?_ ?_ _) | (with_reducible refine Below.trans ?_ (Below.mono (by assumption) ?_)) | (first | omega | (simp only [World.size_alloc, World.size_setCell, World.size_drew]; omega) | (simp; omega) | (simp; done))))
  have HxR := Lib.hid (Hx.out w1 hb1')
  have HB1 := Lib.hid hb1'
  clear hown1 ca hb1 hb1'
  go_wp2
  go_loopw [10] (fun i wr => ∃ k : Nat, k ≤ p ∧ i = .int .i64 k ∧ w1 = wr) (fun i _ => 3 - (intOf i).toNat)
  case atStart => exact ⟨0, Nat.zero_le _, rfl, rfl⟩
  case round =>
    obtain ⟨k, hk, rfl, rfl⟩ := hrel
    obtain ⟨b1, o1, rfl, hb1, hc1⟩ := HR1.out.pos (by rw [HX3.out]; omega)
    have hck := hc1 k (by rw [HX3.out]; omega)
    obtain ⟨b2, o2, rfl, hb2, hc2⟩ := HxR.out.pos (by have := Hvl.out; omega)
    have hcv := hc2 v Hvl.out
    rw [Hrv.out] at hcv
    clear hc2
    have hk3 : k < 3 := by omega
    obtain ⟨ek, ek2, ek3⟩ := idxF k 3 hk3
    by_cases hkp : k = p
    · subst hkp
      rw [HXp.out] at hck
      have hcn := hc1 ((k + 1 + r) % 3) (by rw [HX3.out]; omega)
      clear hc1
      have hkc : k = 0 ∨ k = 1 ∨ k = 2 := by omega
      have hrc : r = 0 ∨ r = 1 := by omega
      rcases hkc with rfl | rfl | rfl <;> rcases hrc with rfl | rfl
      all_goals
        simp only [Nat.reduceAdd, Nat.reduceMod] at hcn ⊢
        (try simp only [Nat.add_zero] at hck)
        (try simp only [Nat.add_zero] at hcn)
        go_wp2
        go_ret
        exact ⟨rfl, HB1.out⟩
    · have hne := HXn.out k (by omega)
      obtain ⟨x, Hxk⟩ : ∃ x, Hid (X.getD k 0 = x) := ⟨_, rfl⟩
      rw [Hxk.out] at hck hne
      have hnb : (x == (e0 : Int)) = false := by simpa using hne
      clear hc1 hne
      go_wp2
      exact ⟨⟨k + 1, by omega, by go_num, trivial⟩, by simp [intOf]; omega⟩
end Go.Proofs.Ytigdfcigoejjjaa
