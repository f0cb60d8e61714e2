/- Walks of the functions by which the laws compare graphs. -/
import Derived.Test.YtblidpodbpoaeaaGlue2
namespace Go.Proofs.Ytblidpodbpoaeaa
open Go.RowKit
set_option linter.unusedSimpArgs false
set_option linter.unusedVariables false

theorem eqEdge_b (a b c d : Int) (w : World) (q : Bool) (hq : Hid ((decide (a = c) && decide (b = d)) = q)) :
    Calls Try.prog 83 #[.agg #[.int .i64 a, .int .i64 b], .agg #[.int .i64 c, .int .i64 d]] w fun e w' => e = .returned (.bool q) ∧ Below w.heap.size w w' :=
  hq.out ▸ eqEdge_any a b c d w

set_option maxHeartbeats 400000 in
theorem eqEdgeS_any (A A' : Option Addr) (c c' : Nat) (es es' : List (Int × Int)) (w : World) (hl : es.length ≤ 1048576) (hr : RdE w A es) (hr' : RdE w A' es') (hll : es.length = es'.length) :
    Calls Try.prog 36 #[.slice A es.length c, .slice A' es.length c'] w fun e w' => e = .returned (.bool (decide (es = es'))) ∧ Below w.heap.size w w' := by
  generalize hn : es.length = n at *
  have Hn := Lib.hid hn; have Hn' := Lib.hid hll; clear hn hll
  go_enter Try.func36, Try.ntmps36
  go_wp2
  go_loopw [5] (fun i wr => ∃ k : Nat, k ≤ n ∧ i = .int .i64 k ∧ Hid (es.take k = es'.take k) ∧ Below w.heap.size w wr) (fun i _ => n - (intOf i).toNat)
  case atStart => exact ⟨0, Nat.zero_le _, rfl, rfl, by (repeat' (first | (with_reducible exact Below.refl _ _) | (with_reducible assumption) | (with_reducible refine Below.alloc ?_ ?_ _) | (with_reducible refine Below.drew ?_) | (with_reducible refine below_drewN ?_ _) | (with_reducible refine Below.setCell ?_ ?_ _) | (with_reducible refine Below.trans ?_ (Below.mono (by assumption) ?_)) | (first | omega | (simp only [World.size_alloc, World.size_setCell, World.size_drew]; omega) | (simp; omega) | (simp; done))))⟩
  case round =>
    obtain ⟨k, hk, rfl, hE, hbel⟩ := hrel
    have hsz := hbel.size
    by_cases hlt : k < n
    · obtain ⟨b, off, rfl, hb, hc⟩ := (hr.below hbel).pos (by have := Hn.out; omega)
      obtain ⟨b', off', rfl, hb', hc'⟩ := (hr'.below hbel).pos (by have := Hn'.out; omega)
      have hc0 := (hc k (by have := Hn.out; omega)).1
      have hc1 := (hc k (by have := Hn.out; omega)).2
      have hd0 := (hc' k (by have := Hn'.out; omega)).1
      have hd1 := (hc' k (by have := Hn'.out; omega)).2
      clear hc hc' hr hr'
      generalize hx : es.getD k (0, 0) = x at *
      generalize hy : es'.getD k (0, 0) = y at *
      have Hx := Lib.hid hx; have Hy := Lib.hid hy; clear hx hy
      obtain ⟨q, Hq⟩ : ∃ q, Hid ((decide (x.1 = y.1) && decide (x.2 = y.2)) = q) := ⟨_, rfl⟩
      go_wp2
      go_region_held3 (fun w' => w'.cell? ⟨b, off + k * 2, none⟩ = some (.int .i64 x.1) ∧ w'.cell? ⟨b, off + k * 2 + 1, none⟩ = some (.int .i64 x.2) ∧ w'.cell? ⟨b', off' + k * 2, none⟩ = some (.int .i64 y.1) ∧ w'.cell? ⟨b', off' + k * 2 + 1, none⟩ = some (.int .i64 y.2))
        (first | go_keep | (obtain ⟨hq, _⟩ := bcell ‹Below _ _ _›; (repeat' apply And.intro) <;> (rw [hq _ _ (by first | assumption | omega | (simp; done) | (simp; omega) | (simp; assumption))] <;> (first | assumption | (simp [*]; done))))) (first | (go_at_call 83; refine (eqEdge_b _ _ _ _ _ q Hq).mono ?_; rintro e w2 ⟨rfl, hb2⟩))
      cases q
      · go_wp2
        go_ret
        refine ⟨?_, by (repeat' (first | (with_reducible exact Below.refl _ _) | (with_reducible assumption) | (with_reducible refine Below.alloc ?_ ?_ _) | (with_reducible refine Below.drew ?_) | (with_reducible refine below_drewN ?_ _) | (with_reducible refine Below.setCell ?_ ?_ _) | (with_reducible refine Below.trans ?_ (Below.mono (by assumption) ?_)) | (first | omega | (simp only [World.size_alloc, World.size_setCell, World.size_drew]; omega) | (simp; omega) | (simp; done))))⟩
        have h1 := Hq.out
        have h2 := Hx.out
        have h3 := Hy.out
        have hne : es ≠ es' := by
          intro e
          subst e
          rw [h2] at h3
          subst h3
          simp at h1
        simp [hne]
      · go_wp2
        refine ⟨⟨k + 1, by omega, by go_num, ?_, by (repeat' (first | (with_reducible exact Below.refl _ _) | (with_reducible assumption) | (with_reducible refine Below.alloc ?_ ?_ _) | (with_reducible refine Below.drew ?_) | (with_reducible refine below_drewN ?_ _) | (with_reducible refine Below.setCell ?_ ?_ _) | (with_reducible refine Below.trans ?_ (Below.mono (by assumption) ?_)) | (first | omega | (simp only [World.size_alloc, World.size_setCell, World.size_drew]; omega) | (simp; omega) | (simp; done))))⟩, by simp [intOf]; omega⟩
        · show es.take (k + 1) = es'.take (k + 1)
          have h1 := Hq.out
          have h2 := Hx.out
          have h3 := Hy.out
          have hxy : x = y := by
            simp only [Bool.and_eq_true, decide_eq_true_eq] at h1
            exact Prod.ext h1.1 h1.2
          have hn := Hn.out
          have hn' := Hn'.out
          have hlt : k < es.length := by omega
          have hlt' : k < es'.length := by omega
          rw [List.take_succ_eq_append_getElem hlt, List.take_succ_eq_append_getElem hlt', hE.out]
          simp only [List.getD_eq_getElem?_getD, List.getElem?_eq_getElem hlt, List.getElem?_eq_getElem hlt', Option.getD_some] at h2 h3
          rw [h2, h3, hxy]
    · obtain rfl : k = n := by omega
      go_wp2
      go_ret
      have hee : es = es' := by
        have := hE.out
        rw [List.take_of_length_le (by have := Hn.out; omega), List.take_of_length_le (by have := Hn'.out; omega)] at this
        exact this
      exact ⟨by simp [hee], hbel⟩
/-- Of lists of different lengths. -/
theorem eqEdgeS_len (A A' : Option Addr) (c c' : Nat) (n n' : Nat) (w : World) (hn : n ≠ n') (hm : n ≤ 1048576) (hm' : n' ≤ 1048576) :
    Calls Try.prog 36 #[.slice A n c, .slice A' n' c'] w fun e w' => e = .returned (.bool false) ∧ w = w' := by
  have h1 : ((n : Int) != (n' : Int)) = true := by simp; omega
  go_enter Try.func36, Try.ntmps36
  go_wp2
  go_ret
  exact ⟨rfl, rfl⟩

/-- The Go value of a graph. -/
def gV (n : Int) (A : Option Addr) (m c : Nat) : Value := .agg #[.int .i64 n, .slice A m c]

set_option maxHeartbeats 400000 in
theorem eqGraph_any (n n' : Int) (A A' : Option Addr) (c c' : Nat) (es es' : List (Int × Int)) (w : World) (hl : es.length ≤ 1048576) (hl' : es'.length ≤ 1048576) (hr : RdE w A es) (hr' : RdE w A' es') :
    Calls Try.prog 12 #[.agg #[.int .i64 n, .slice A es.length c], .agg #[.int .i64 n', .slice A' es'.length c']] w fun e w' => e = .returned (.bool (decide (n = n') && decide (es = es'))) ∧ Below w.heap.size w w' := by
  by_cases hn : n = n'
  · subst hn
    have hc : ∀ W, Below w.heap.size w W → Calls Try.prog 36 #[.slice A es.length c, .slice A' es'.length c'] W fun e w' => e = .returned (.bool (decide (es = es'))) ∧ Below W.heap.size W w' := by
      intro W hW
      by_cases hll : es.length = es'.length
      · rw [← hll]; exact eqEdgeS_any A A' c c' es es' W hl (hr.below hW) (hr'.below hW) hll
      · refine (eqEdgeS_len A A' c c' es.length es'.length W hll hl hl').mono ?_
        rintro e w' ⟨rfl, rfl⟩
        have hne : es ≠ es' := fun e => hll (by rw [e])
        exact ⟨by simp [hne], Below.refl _ _⟩
    generalize hq : decide (es = es') = q at hc ⊢
    have Hq := Lib.hid hq; clear hq
    cases q <;> go_enter Try.func12, Try.ntmps12
    all_goals
      go_wp2_with fail
      refine (hc _ (by (repeat' (first | (with_reducible exact Below.refl _ _) | (with_reducible assumption) | (with_reducible refine Below.alloc ?_ ?_ _) | (with_reducible refine Below.drew ?_) | (with_reducible refine below_drewN ?_ _) | (with_reducible refine Below.setCell ?_ ?_ _) | (with_reducible refine Below.trans ?_ (Below.mono (by assumption) ?_)) | (first | omega | (simp only [World.size_alloc, World.size_setCell, World.size_drew]; omega) | (simp; omega) | (simp; done)))))).mono ?_
      rintro e w1 ⟨rfl, hb⟩
      go_wp2
      go_ret
      exact ⟨by simp, by (repeat' (first | (with_reducible exact Below.refl _ _) | (with_reducible assumption) | (with_reducible refine Below.alloc ?_ ?_ _) | (with_reducible refine Below.drew ?_) | (with_reducible refine below_drewN ?_ _) | (with_reducible refine Below.setCell ?_ ?_ _) | (with_reducible refine Below.trans ?_ (Below.mono (by assumption) ?_)) | (first | omega | (simp only [World.size_alloc, World.size_setCell, World.size_drew]; omega) | (simp; omega) | (simp; done))))⟩
  · have h1 : (n == n') = false := by simpa using hn
    have h2 : (n != n') = true := by simpa using hn
    go_enter Try.func12, Try.ntmps12
    go_wp2
    go_ret
    exact ⟨by simp [hn], by (repeat' (first | (with_reducible exact Below.refl _ _) | (with_reducible assumption) | (with_reducible refine Below.alloc ?_ ?_ _) | (with_reducible refine Below.drew ?_) | (with_reducible refine below_drewN ?_ _) | (with_reducible refine Below.setCell ?_ ?_ _) | (with_reducible refine Below.trans ?_ (Below.mono (by assumption) ?_)) | (first | omega | (simp only [World.size_alloc, World.size_setCell, World.size_drew]; omega) | (simp; omega) | (simp; done))))⟩
end Go.Proofs.Ytblidpodbpoaeaa
