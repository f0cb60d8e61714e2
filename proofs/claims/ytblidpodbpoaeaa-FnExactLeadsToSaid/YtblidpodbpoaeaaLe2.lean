/- bothCode; slices.Equal at edges; renumbered, leads. No statement of the program is proved here. -/
import Derived.Test.YtblidpodbpoaeaaLe1
import Derived.Test.YtblidpodbpoaeaaGo1
import Derived.Test.YtblidpodbpoaeaaIs1
import Derived.Test.YtblidpodbpoaeaaOr2
namespace Go.Proofs.Ytblidpodbpoaeaa
open Go.RowKit
set_option linter.unusedSimpArgs false
set_option linter.unusedVariables false
set_option maxRecDepth 20000

/-- The code for two graphs. -/
def bcode (q1 q2 q3 : Bool) : Int := if (q1 && q2) = false then 1 else if q3 = false then 2 else 0
set_option maxHeartbeats 2000000 in
theorem bothCode_b (n : Int) (A : Option Addr) (c : Nat) (es : List (Int × Int)) (m : Int) (B : Option Addr) (d : Nat) (hs : List (Int × Int)) (g : Nat) (lb : Array Value) (w : World) (q1 q2 q3 : Bool) (eg : Ent g) (h1 : Hid (isGraphB n es = q1)) (h2 : Hid (isGraphB m hs = q2)) (hl : es.length ≤ 1048576) (hl2 : hs.length ≤ 1048576) (hr : RdE w A es) (hr2 : RdE w B hs)
    (hp : q1 = true → q2 = true → ∀ W, Below w.heap.size w W → Calls Try.prog g lb W fun e w' => e = .returned (.bool q3) ∧ Below W.heap.size W w') :
    Calls Try.prog 58 #[.agg #[.int .i64 n, .slice A es.length c], .agg #[.int .i64 m, .slice B hs.length d], .func (.func g) #[] lb] w fun e w' => e = .returned (.int .i64 (bcode q1 q2 q3)) ∧ Below w.heap.size w w' := by
  have eg0 := eg
  unfold Ent at eg0
  clear eg
  have c1 := Lib.hid fun W (hW : Below w.heap.size w W) => isGraph_b n A c es W q1 h1 hl (hr.below hW)
  have c2 := Lib.hid fun W (hW : Below w.heap.size w W) => isGraph_b m B d hs W q2 h2 hl2 (hr2.below hW)
  have Hp := Lib.hid hp
  clear h1 h2 hr hr2 hp
  generalize es.length = L at *
  generalize hs.length = M at *
  have hB1 : Below w.heap.size w ((w.alloc (.cells #[.int .i64 n, .slice A L c] 24)).alloc (.cells #[.int .i64 m, .slice B M d] 24)) := by (repeat' (first | (with_reducible exact Below.refl _ _) | (with_reducible assumption) | (with_reducible refine Below.alloc ?_ ?_ _) | (with_reducible refine Below.drew ?_) | (with_reducible refine below_drewN ?_ _) | (with_reducible refine Below.setCell ?_ ?_ _) | (with_reducible refine Below.trans ?_ (Below.mono (by assumption) ?_)) | (first | omega | (simp only [World.size_alloc, World.size_setCell, World.size_drew]; omega) | (simp; omega) | (simp; done))))
  cases q1
  · go_enter Try.func58, Try.ntmps58
    go_wp2_with fail
    refine (c1.out _ hB1).mono ?_
    rintro e w1 ⟨rfl, hb1⟩
    go_wp2
    go_ret
    exact ⟨rfl, hB1.trans (hb1.mono (by simp; omega))⟩
  · go_enter Try.func58, Try.ntmps58
    go_wp2_with fail
    refine (c1.out _ hB1).mono ?_
    rintro e w1 ⟨rfl, hb1⟩
    have K := (Blk.new' (n := w.heap.size + 1) (w.alloc (.cells #[.int .i64 n, .slice A L c] 24)) (t := 24) (cs := #[.int .i64 m, .slice B M d]) (by simp)).below hb1 (by simp)
    have k0 := K.cellAt 0 _ rfl
    have k1 := K.cellAt 1 _ rfl
    have Hb1 : Hid (Below w.heap.size w w1) := hB1.trans (hb1.mono (by simp; omega))
    have s1 := Hb1.out.size
    clear K hb1 hB1
    go_wp2_with fail
    refine (c2.out _ Hb1.out).mono ?_
    rintro e w2 ⟨rfl, hb2⟩
    have Hb2 : Hid (Below w.heap.size w w2) := Hb1.out.trans (hb2.mono s1)
    have s2 := Hb2.out.size
    clear hb2 k0 k1
    cases q2
    · go_wp2
      go_ret
      exact ⟨rfl, Hb2.out⟩
    · go_wp2_with fail
      refine (Hp.out (by first | rfl | trivial) (by first | rfl | trivial) w2 Hb2.out).mono ?_
      rintro e w3 ⟨rfl, hb3⟩
      have Hb3 : Hid (Below w.heap.size w w3) := Hb2.out.trans (hb3.mono s2)
      clear hb3
      cases q3
      · go_wp2
        go_ret
        exact ⟨rfl, Hb3.out⟩
      · go_wp2
        go_ret
        exact ⟨rfl, Hb3.out⟩

/-- '==' of two edges. -/
theorem eqE (a b c d : Int) (w : World) : (Op.equalIn 10000 54 (.agg #[.int .i64 a, .int .i64 b]) (.agg #[.int .i64 c, .int .i64 d])).run Try.prog w = .ok (a == c && b == d) w := by
  have u3 := Try.underlying2
  have a3 := Try.isAgg2
  have z3 := Try.sizeOf2
  rw [show (10000 : Nat) = 9999 + 1 from rfl, Op.equalIn]
  simp only [Sem.run_bind, run_underlying Try.underlying54, Result.andThen_ok]
  simp only [Std.Legacy.Range.forIn_eq_forIn_range', Std.Legacy.Range.size, Nat.sub_zero, Nat.add_sub_cancel, Nat.div_one, List.range'_succ, List.range'_zero, List.forIn_cons, List.forIn_nil]
  go_simp
  by_cases h1 : a = c <;> by_cases h2 : b = d <;> simp [h1, h2]

set_option maxHeartbeats 2000000 in
theorem equalE_b (A : Option Addr) (c : Nat) (es : List (Int × Int)) (B : Option Addr) (d : Nat) (hs : List (Int × Int)) (w : World) (q : Bool) (hq : Hid (decide (es = hs) = q)) (hl : es.length ≤ 1048576) (hl2 : hs.length ≤ 1048576) (hr : RdE w A es) (hr2 : RdE w B hs) :
    Calls Try.prog 95 #[.slice A es.length c, .slice B hs.length d] w fun e w' => e = .returned (.bool q) ∧ Below w.heap.size w w' := by
  by_cases hlen : es.length = hs.length
  · obtain ⟨L, HL⟩ : ∃ L, Hid (es.length = L) := ⟨_, rfl⟩
    have HM : Hid (hs.length = L) := by show _ = _; rw [← hlen]; exact HL.out
    rw [HL.out, HM.out]
    rw [HL.out] at hl
    have g0 : ((L : Int) != (L : Int)) = false := by simp
    clear hlen hl2
    go_enter Try.func95, Try.ntmps95
    go_wp2
    go_loopw [13] (fun i wr => ∃ k : Nat, k ≤ L ∧ i = .int .i64 k ∧ Hid (∀ j, j < k → es.getD j (0, 0) = hs.getD j (0, 0)) ∧ Hid (Below w.heap.size w wr)) (fun i _ => L - (intOf i).toNat)
    case atStart => exact ⟨0, Nat.zero_le _, rfl, fun j hj => by omega, Below.refl _ _⟩
    case round =>
      obtain ⟨k, hk, rfl, Heq, Hbel⟩ := hrel
      have hsz := Hbel.out.size
      by_cases hlt : k < L
      · obtain ⟨b, off, rfl, _, hc⟩ := (hr.below Hbel.out).pos (by rw [HL.out]; omega)
        obtain ⟨b2, off2, rfl, _, hc2⟩ := (hr2.below Hbel.out).pos (by rw [HM.out]; omega)
        obtain ⟨hc0, hc1⟩ := hc k (by rw [HL.out]; exact hlt)
        obtain ⟨hd0, hd1⟩ := hc2 k (by rw [HM.out]; exact hlt)
        clear hc hc2
        obtain ⟨⟨x, y⟩, Hx⟩ : ∃ x, Hid (es.getD k (0, 0) = x) := ⟨_, rfl⟩
        obtain ⟨⟨x2, y2⟩, Hy⟩ : ∃ x, Hid (hs.getD k (0, 0) = x) := ⟨_, rfl⟩
        rw [Hx.out] at hc0 hc1
        rw [Hy.out] at hd0 hd1
        dsimp only at hc0 hc1 hd0 hd1
        obtain ⟨ek, ek2, ek3⟩ := idxF k L hlt
        have he : ∀ W : World, (Op.equalIn 10000 54 (.agg #[.int .i64 x, .int .i64 y]) (.agg #[.int .i64 x2, .int .i64 y2])).run Try.prog W = .ok (x == x2 && y == y2) W := fun W => eqE x y x2 y2 W
        obtain ⟨q1, Hq1⟩ : ∃ q, Hid ((x == x2 && y == y2) = q) := ⟨_, rfl⟩
        rw [Hq1.out] at he
        go_wp2
        go_quiet (fail)
        rename_i nq
        cases q1
        · have Hf : Hid (false = q) := by
            show _ = _
            rw [← hq.out]
            symm
            rw [decide_eq_false_iff_not]
            intro h
            have h1 := Hq1.out
            have h2 := Hx.out
            rw [h, Hy.out] at h2
            injection h2 with h2 h3
            subst h2; subst h3
            simp at h1
          go_wp2
          go_ret
          exact ⟨by rw [← Hf.out]; rfl, by have := Hbel.out; (repeat' (first | (with_reducible exact Below.refl _ _) | (with_reducible assumption) | (with_reducible refine Below.alloc ?_ ?_ _) | (with_reducible refine Below.drew ?_) | (with_reducible refine below_drewN ?_ _) | (with_reducible refine Below.setCell ?_ ?_ _) | (with_reducible refine Below.trans ?_ (Below.mono (by assumption) ?_)) | (first | omega | (simp only [World.size_alloc, World.size_setCell, World.size_drew]; omega) | (simp; omega) | (simp; done))))⟩
        · have Heq2 : Hid (∀ j, j < k + 1 → es.getD j (0, 0) = hs.getD j (0, 0)) := fun j hj => by
            by_cases hjk : j = k
            · subst hjk
              have h1 := Hq1.out
              simp only [Bool.and_eq_true, beq_iff_eq] at h1
              rw [Hx.out, Hy.out, h1.1, h1.2]
            · exact Heq.out j (by omega)
          have Hb2 : Hid (Below w.heap.size w (wr.drewN nq)) := by have := Hbel.out; show Below _ _ _; (repeat' (first | (with_reducible exact Below.refl _ _) | (with_reducible assumption) | (with_reducible refine Below.alloc ?_ ?_ _) | (with_reducible refine Below.drew ?_) | (with_reducible refine below_drewN ?_ _) | (with_reducible refine Below.setCell ?_ ?_ _) | (with_reducible refine Below.trans ?_ (Below.mono (by assumption) ?_)) | (first | omega | (simp only [World.size_alloc, World.size_setCell, World.size_drew]; omega) | (simp; omega) | (simp; done))))
          go_wp2
          exact ⟨⟨k + 1, by omega, by go_num, Heq2, Hb2⟩, by simp [intOf]; omega⟩
      · obtain rfl : k = L := by omega
        have Hf : Hid (true = q) := by
          show _ = _
          rw [← hq.out]
          symm
          rw [decide_eq_true_eq]
          refine ext_getD (by rw [HL.out, HM.out]) fun j hj => Heq.out j (by rw [← HL.out]; exact hj)
        go_wp2
        go_ret
        exact ⟨by rw [← Hf.out]; rfl, Hbel.out⟩
  · have g0 : ((es.length : Int) != (hs.length : Int)) = true := by simpa using (show ¬ (es.length : Int) = hs.length by omega)
    obtain rfl : false = q := by rw [← hq.out]; symm; rw [decide_eq_false_iff_not]; intro h; exact hlen (by rw [h])
    clear hr hr2 hq hlen
    generalize es.length = L at *
    generalize hs.length = M at *
    go_enter Try.func95, Try.ntmps95
    go_wp2
    go_ret
    exact ⟨rfl, Below.refl _ _⟩
end Go.Proofs.Ytblidpodbpoaeaa
