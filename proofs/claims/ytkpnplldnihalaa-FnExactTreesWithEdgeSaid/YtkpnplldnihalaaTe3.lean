/- The reference's l03Rest with one edge; TreesWithEdge of both. -/
import Derived.Test.YtkpnplldnihalaaTe2
import Derived.Test.YtkpnplldnihalaaTr3
import Derived.Test.YtkpnplldnihalaaNe1
namespace Go.Proofs.Ytkpnplldnihalaa
open Go.RowKit
set_option linter.unusedSimpArgs false
set_option linter.unusedVariables false
set_option maxRecDepth 20000

/-- The edges below k but number e. -/
def restTo (es : List (Int × Int)) (e k : Nat) : List (Int × Int) := dropE (es.take k) e
theorem restTo_zero (es : List (Int × Int)) (e : Nat) : restTo es e 0 = [] := by simp [restTo, dropE]
theorem restTo_all (es : List (Int × Int)) (e : Nat) : restTo es e es.length = dropE es e := by rw [restTo, List.take_length]
theorem restTo_same {es : List (Int × Int)} {e : Nat} (he : e < es.length) : restTo es e e = restTo es e (e + 1) := by
  have h1 : (es.take e).length = e := by simp; omega
  have h2 : (es.take (e + 1)).length = e + 1 := by simp; omega
  unfold restTo dropE
  rw [List.drop_of_length_le (by omega), List.drop_of_length_le (by omega), List.take_take, List.take_take, Nat.min_self, Nat.min_eq_left (by omega)]
theorem restTo_next {es : List (Int × Int)} {e k : Nat} (hk : k < es.length) (hne : k ≠ e) : restTo es e k ++ [es.getD k (0, 0)] = restTo es e (k + 1) := by
  have h : es.getD k (0, 0) = es[k] := by simp [List.getD, hk]
  have h1 : (es.take k).length = k := by simp; omega
  unfold restTo dropE
  rw [List.take_add_one, List.getElem?_eq_getElem hk, h]
  simp only [Option.toList_some]
  by_cases hlt : k < e
  · have h2 : (es.take k ++ [es[k]]).length = k + 1 := by rw [List.length_append, h1]; rfl
    rw [List.take_of_length_le (show (es.take k ++ [es[k]]).length ≤ e by omega), List.take_of_length_le (show (es.take k).length ≤ e by omega), List.drop_of_length_le (show (es.take k).length ≤ e + 1 by omega), List.drop_of_length_le (show (es.take k ++ [es[k]]).length ≤ e + 1 by omega)]
    simp
  · rw [List.take_append_of_le_length (by omega), List.drop_append_of_le_length (by omega), List.append_assoc]
theorem own_snocE {w : World} {base : Nat} {e : TypeId} {v : Value} {n : Nat} {xs ys : List (Int × Int)} {x y : Int} (h : w.ownsRow base e 2 v (n + 1) (cE xs ++ [.int .i64 x, .int .i64 y])) (he : xs ++ [(x, y)] = ys) : w.ownsRow base e 2 v (n + 1) (cE ys) := by
  rw [← he, cE_append]; exact h
theorem restTo_len {es : List (Int × Int)} {e k : Nat} (hk : k ≤ es.length) (he : e < es.length) : (restTo es e k).length = if e < k then k - 1 else k := by
  unfold restTo dropE
  split <;> simp <;> omega

set_option maxHeartbeats 4000000 in
theorem l03Rest_b (n : Int) (A : Option Addr) (c : Nat) (es : List (Int × Int)) (gl e cl : Nat) (w : World) (he : e < es.length) (hl : es.length ≤ 1000) (hr : RdE w A es) (hgl : gl < w.heap.size) (hcl : w.cell? ⟨gl, 0, none⟩ = some (.int .i64 e)) :
    Calls Try.prog 52 #[.agg #[.int .i64 n, .slice A es.length c], .slice (some ⟨gl, 0, none⟩) 1 cl] w fun r w' => ∃ A' c', r = .returned (.slice A' (es.length - 1) c') ∧ RdE w' A' (dropE es e) ∧ Below w.heap.size w w' := by
  obtain ⟨i0, hi, hz0, hz1, hz2⟩ := info_parts infoE
  have Hre : Hid (∀ W, Below w.heap.size w W → RdE W A es) := fun W hW => hr.below hW
  have Hcl : Hid (∀ W, Below w.heap.size w W → W.cell? ⟨gl, 0, none⟩ = some (.int .i64 e)) := fun W hW => ((bcell hW).1 _ _ hgl).trans hcl
  have Hall : Hid (restTo es e es.length = dropE es e) := restTo_all es e
  have Hlen : Hid (∀ k, k ≤ es.length → (restTo es e k).length = if e < k then k - 1 else k) := fun k hk => restTo_len hk he
  clear hr hcl
  generalize hm : es.length = L at *
  have Hm := Lib.hid hm; clear hm
  go_enter Try.func52, Try.ntmps52
  go_wp2
  go_loopw [5, 6, 7] (fun v at_ s wr => ∃ k : Nat, k ≤ L ∧ s = .int .i64 k ∧ at_ = .int .i64 (if e < k then 1 else 0) ∧ Hid (wr.ownsRow (w.heap.size + 1) 61 2 v (restTo es e k).length (cE (restTo es e k))) ∧ Hid (Blk wr w.heap.size 30 #[.int .i64 n, .slice A L c]) ∧ Hid (Below w.heap.size w wr)) (fun _ _ s _ => L - (intOf s).toNat)
  case atStart =>
    refine ⟨0, Nat.zero_le _, rfl, by simp, ?_, ?_, ?_⟩
    · show World.ownsRow _ _ _ _ _ _ _
      rw [restTo_zero]
      exact own_mono (own_blk (xs := []) (Blk.new' (n := w.heap.size + 1) _ (by simp)) (by simp) (by decide)) (Nat.le_refl _)
    · exact (Blk.new w _ _).alloc _
    · show Below _ _ _; (repeat' (first | (with_reducible exact Below.refl _ _) | (with_reducible assumption) | (with_reducible refine Below.alloc ?_ ?_ _) | (with_reducible refine Below.drew ?_) | (with_reducible refine below_drewN ?_ _) | (with_reducible refine Below.setCell ?_ ?_ _) | (with_reducible refine Below.trans ?_ (Below.mono (by assumption) ?_)) | (first | omega | (simp only [World.size_alloc, World.size_setCell, World.size_drew]; omega) | (simp; omega) | (simp; done))))
  case round =>
    obtain ⟨k, hk, rfl, rfl, Hown, HK, Hbel⟩ := hrel
    obtain ⟨A1, c1, rfl⟩ := own_form Hown.out
    have k00 := HK.out.cellAt 0 _ rfl
    have k01 := HK.out.cellAt 1 _ rfl
    have hsz := HK.out.lt
    by_cases hlt : k < L
    · by_cases hke : k = e
      · subst hke
        have cl0 := Hcl.out wr Hbel.out
        have a0 : ¬ (k < k) := by omega
        rw [if_neg a0]
        go_wp2
        clear cl0
        refine ⟨⟨k + 1, by omega, by go_num, by simp, ?_, HK, Hbel⟩, by simp [intOf]; omega⟩
        rw [← restTo_same (by have := Hm.out; omega)]; exact Hown
      · obtain ⟨b, off, rfl, hb, hc⟩ := (Hre.out wr Hbel.out).pos (by have := Hm.out; omega)
        obtain ⟨hc0, hc1⟩ := hc k (by have := Hm.out; omega)
        have Hn := Lib.hid (restTo_next (e := e) (show k < es.length by have := Hm.out; omega) hke)
        obtain ⟨⟨x, y⟩, Hxy⟩ : ∃ x, Hid (es.getD k (0, 0) = x) := ⟨_, rfl⟩
        rw [Hxy.out] at hc0 hc1 Hn
        dsimp only at hc0 hc1
        obtain ⟨m, Hm2⟩ : ∃ m, Hid ((restTo es e k).length = m) := ⟨_, rfl⟩
        have hmb : m ≤ 1000 := by rw [← Hm2.out, Hlen.out k (by omega)]; split <;> omega
        have Hm3 : Hid ((restTo es e (k + 1)).length = m + 1) := by show _ = _; rw [← Hn.out, List.length_append, Hm2.out]; rfl
        rw [Hm2.out] at Hown
        obtain ⟨P, HP⟩ : ∃ P, Hid (restTo es e k = P) := ⟨_, rfl⟩
        rw [HP.out] at Hown Hn
        have cl0 := Hcl.out wr Hbel.out
        have hb3 : Below (w.heap.size + 1) wr (wr.alloc (.cells #[.int .i64 x, .int .i64 y] 61)) := by (repeat' (first | (with_reducible exact Below.refl _ _) | (with_reducible assumption) | (with_reducible refine Below.alloc ?_ ?_ _) | (with_reducible refine Below.drew ?_) | (with_reducible refine below_drewN ?_ _) | (with_reducible refine Below.setCell ?_ ?_ _) | (with_reducible refine Below.trans ?_ (Below.mono (by assumption) ?_)) | (first | omega | (simp only [World.size_alloc, World.size_setCell, World.size_drew]; omega) | (simp; omega) | (simp; done))))
        have hown2 := own_below Hown.out (Below.alloc (Below.refl _ _) (Nat.le_refl _) (.cells #[.int .i64 x, .int .i64 y] 61))
        have ha : ((if e < k then 1 else 0 : Int) = 1 ∧ e < k) ∨ ((if e < k then 1 else 0 : Int) = 0 ∧ k < e) := by split <;> omega
        clear hc
        have key : (if e < k then (1 : Int) else 0) = (if e < k + 1 then 1 else 0) := by split <;> split <;> omega
        have Hkey := Lib.hid key; clear key
        rw [Hm2.out]
        rcases ha with ⟨ha, ha2⟩ | ⟨ha, ha2⟩
        · rw [ha] at Hkey ⊢
          go_wp2_with (first
            | (at_builtin; refine wpList_append_own _ rfl _ _ 28 rfl (w.heap.size + 1) 61 i0 (.agg #[.int .i64 0, .int .i64 0]) 2 16 Try.underlying28 hi hz0 hz1 hz2 rfl (by decide) _ _ _ rfl hown2 ⟨wr.heap.size, 0, none⟩ 1 1 [.int .i64 x, .int .i64 y] rfl rfl ?c1 ?c2 ?c3 ?c4 ?c5 ?_))
          case c1 =>
            intro j u hj
            match j, hj with
            | 0, hj => simp at hj; subst hj; simp [Addr.add]
            | 1, hj => simp at hj; subst hj; simp [Addr.add]
          case c2 => intro u hu; simp at hu; rcases hu with rfl | rfl <;> rfl
          case c3 => unfold maxLen; omega
          case c4 => omega
          case c5 => simp; omega
          intro v' w1 hown' hgrow _
          have hb4 : Below (w.heap.size + 1) wr w1 := own_grown_below hb3 hown2 hgrow (by simp; omega)
          have hown3 := own_snocE hown' Hn.out
          have H3 := Lib.hid hown3
          have HK1 := Lib.hid (HK.out.below hb4 (by omega))
          have Hb5 : Hid (Below w.heap.size w w1) := Hbel.out.trans (hb4.mono (by omega))
          clear hown' hgrow hown2 hown3 hb3 hb4 HK Hown Hbel k00 k01 cl0 hc0 hc1
          go_wp2
          refine ⟨⟨k + 1, by omega, by go_num, by rw [← Hkey.out], ?_, HK1, Hb5⟩, by simp [intOf]; omega⟩
          rw [Hm3.out]; exact H3
        · rw [ha] at Hkey ⊢
          have t1 : ((e : Int) == k) = false := by simp; omega
          have t2 : ¬ ((e : Int) = k) := by omega
          go_wp2_with (first
            | (at_builtin; refine wpList_append_own _ rfl _ _ 28 rfl (w.heap.size + 1) 61 i0 (.agg #[.int .i64 0, .int .i64 0]) 2 16 Try.underlying28 hi hz0 hz1 hz2 rfl (by decide) _ _ _ rfl hown2 ⟨wr.heap.size, 0, none⟩ 1 1 [.int .i64 x, .int .i64 y] rfl rfl ?c1 ?c2 ?c3 ?c4 ?c5 ?_))
          case c1 =>
            intro j u hj
            match j, hj with
            | 0, hj => simp at hj; subst hj; simp [Addr.add]
            | 1, hj => simp at hj; subst hj; simp [Addr.add]
          case c2 => intro u hu; simp at hu; rcases hu with rfl | rfl <;> rfl
          case c3 => unfold maxLen; omega
          case c4 => omega
          case c5 => simp; omega
          intro v' w1 hown' hgrow _
          have hb4 : Below (w.heap.size + 1) wr w1 := own_grown_below hb3 hown2 hgrow (by simp; omega)
          have hown3 := own_snocE hown' Hn.out
          have H3 := Lib.hid hown3
          have HK1 := Lib.hid (HK.out.below hb4 (by omega))
          have Hb5 : Hid (Below w.heap.size w w1) := Hbel.out.trans (hb4.mono (by omega))
          clear hown' hgrow hown2 hown3 hb3 hb4 HK Hown Hbel k00 k01 cl0 hc0 hc1
          go_wp2
          refine ⟨⟨k + 1, by omega, by go_num, by rw [← Hkey.out], ?_, HK1, Hb5⟩, by simp [intOf]; omega⟩
          rw [Hm3.out]; exact H3
    · obtain rfl : k = L := by omega
      go_wp2
      go_ret
      have hlen := Hlen.out k (Nat.le_refl _)
      rw [if_pos he] at hlen
      rw [hlen] at Hown ⊢
      rw [Hall.out] at Hown
      exact ⟨A1, ⟨c1, rfl⟩, own_rdE Hown.out, Hbel.out⟩
end Go.Proofs.Ytkpnplldnihalaa
