/- The reference's test of graphs: l01In, l01Ends, l01Cubic, l01Before. -/
/- The reference's test of graphs: l01Ends, l01Is, l01Vertices. -/
/- The reference's test of graphs: l01Is, l01Vertices. -/
import Derived.Test.YtigdfcigoejjjaaIs1
namespace Go.Proofs.Ytigdfcigoejjjaa
open Go.RowKit
set_option linter.unusedSimpArgs false
set_option linter.unusedVariables false

set_option maxHeartbeats 400000 in
theorem l01In_b (n lo hi : Int) (w : World) (q : Bool) (hq : Hid (inB n lo hi = q)) :
    Calls Try.prog 63 #[.int .i64 n, .int .i64 lo, .int .i64 hi] w fun e w' => e = .returned (.bool q) ∧ w = w' := by
  by_cases h : lo ≤ n
  · have hd : decide (lo ≤ n) = true := by simpa using h
    have hq' : decide (n ≤ hi) = q := by rw [← hq.out]; simp [inB, h]
    have Hq := Lib.hid hq'; clear hq'
    go_enter Try.func63, Try.ntmps63
    go_wp2
    go_ret
    exact ⟨by rw [← Hq.out]; rfl, rfl⟩
  · have hd : decide (lo ≤ n) = false := by simpa using h
    have hq' : false = q := by rw [← hq.out]; simp [inB, h]
    have Hq := Lib.hid hq'; clear hq'
    go_enter Try.func63, Try.ntmps63
    go_wp2
    go_ret
    exact ⟨by rw [← Hq.out]; rfl, rfl⟩
theorem l01In_same (n lo hi : Int) (w : World) (q : Bool) (hq : Hid (inB n lo hi = q)) :
    Calls Try.prog 63 #[.int .i64 n, .int .i64 lo, .int .i64 hi] w fun e w' => e = .returned (.bool q) ∧ w' = w :=
  (l01In_b n lo hi w q hq).mono fun _ _ ⟨h, h'⟩ => ⟨h, h'.symm⟩

/-- The order of edges, as the reference has it. -/
def beforeB (a b : Int × Int) : Bool := decide (a.1 < b.1) || (decide (a.1 = b.1) && decide (a.2 < b.2))
theorem beforeB_cmp (a b : Int × Int) : beforeB a b = decide (cmpE a b < 0) := by
  unfold beforeB cmpE cmpI
  by_cases h1 : a.1 < b.1
  · simp [h1]
  · by_cases h2 : b.1 < a.1
    · have h3 : ¬ a.1 = b.1 := by omega
      simp [h1, h2, h3]
    · have h3 : a.1 = b.1 := by omega
      simp [h3]
      by_cases h4 : a.2 < b.2
      · simp [h4]
      · by_cases h5 : b.2 < a.2 <;> simp [h4, h5]

set_option maxHeartbeats 400000 in
theorem l01Before_b (a b c d : Int) (w : World) (q : Bool) (hq : Hid (beforeB (a, b) (c, d) = q)) :
    Calls Try.prog 78 #[.agg #[.int .i64 a, .int .i64 b], .agg #[.int .i64 c, .int .i64 d]] w fun e w' => e = .returned (.bool q) ∧ Below w.heap.size w w' := by
  by_cases h : a < c
  · have hd : decide (a < c) = true := by simpa using h
    have Hq : Hid (true = q) := by show _ = _; rw [← hq.out]; simp [beforeB, h]
    clear hq
    go_enter Try.func78, Try.ntmps78
    go_wp2
    go_ret
    exact ⟨by rw [← Hq.out]; rfl, by (repeat' (first | (with_reducible exact Below.refl _ _) | (with_reducible assumption) | (with_reducible refine Below.alloc ?_ ?_ _) | (with_reducible refine Below.drew ?_) | (with_reducible refine below_drewN ?_ _) | (with_reducible refine Below.setCell ?_ ?_ _) | (with_reducible refine Below.trans ?_ (Below.mono (by assumption) ?_)) | (first | omega | (simp only [World.size_alloc, World.size_setCell, World.size_drew]; omega) | (simp; omega) | (simp; done))))⟩
  · have hd : decide (a < c) = false := by simpa using h
    by_cases h2 : a = c
    · subst h2
      have Hq : Hid (decide (b < d) = q) := by show _ = _; rw [← hq.out]; simp [beforeB]
      clear hq
      go_enter Try.func78, Try.ntmps78
      go_wp2
      go_ret
      exact ⟨by rw [← Hq.out]; rfl, by (repeat' (first | (with_reducible exact Below.refl _ _) | (with_reducible assumption) | (with_reducible refine Below.alloc ?_ ?_ _) | (with_reducible refine Below.drew ?_) | (with_reducible refine below_drewN ?_ _) | (with_reducible refine Below.setCell ?_ ?_ _) | (with_reducible refine Below.trans ?_ (Below.mono (by assumption) ?_)) | (first | omega | (simp only [World.size_alloc, World.size_setCell, World.size_drew]; omega) | (simp; omega) | (simp; done))))⟩
    · have hd2 : (a == c) = false := by simpa using h2
      have Hq : Hid (false = q) := by show _ = _; rw [← hq.out]; simp [beforeB, h, h2]
      clear hq
      go_enter Try.func78, Try.ntmps78
      go_wp2
      go_ret
      exact ⟨by rw [← Hq.out]; rfl, by (repeat' (first | (with_reducible exact Below.refl _ _) | (with_reducible assumption) | (with_reducible refine Below.alloc ?_ ?_ _) | (with_reducible refine Below.drew ?_) | (with_reducible refine below_drewN ?_ _) | (with_reducible refine Below.setCell ?_ ?_ _) | (with_reducible refine Below.trans ?_ (Below.mono (by assumption) ?_)) | (first | omega | (simp only [World.size_alloc, World.size_setCell, World.size_drew]; omega) | (simp; omega) | (simp; done))))⟩

set_option maxHeartbeats 1000000 in
theorem l01Cubic_b (n : Nat) (A : Option Addr) (c : Nat) (es : List (Int × Int)) (w : World) (q : Bool) (hq : Hid ((degs n es).all (fun k => decide (k = 3)) = q)) (hn : n ≤ 1000) (hl : es.length ≤ 1048576) (hr : RdE w A es) (hin : InN n es) :
    Calls Try.prog 77 #[.int .i64 n, .slice A es.length c] w fun e w' => e = .returned (.bool q) ∧ Below w.heap.size w w' := by
  have hmk := mk_row Try.underlying25 infoI n (by omega) (by omega)
  simp only [made_int] at hmk
  generalize hm : es.length = m at *
  have Hm := Lib.hid hm; clear hm
  have Hin := Lib.hid hin; clear hin
  go_enter Try.func77, Try.ntmps77
  go_wp2
  go_loopw [6] (fun i wr => ∃ k : Nat, k ≤ m ∧ i = .int .i64 k ∧ Blk wr w.heap.size 2 (cI (degs n (es.take k))).toArray ∧ Below w.heap.size w wr) (fun i _ => m - (intOf i).toNat)
  case atStart => exact ⟨0, Nat.zero_le _, rfl, (by simp only [List.take_zero]; exact Blk.new _ _ _), by (repeat' (first | (with_reducible exact Below.refl _ _) | (with_reducible assumption) | (with_reducible refine Below.alloc ?_ ?_ _) | (with_reducible refine Below.drew ?_) | (with_reducible refine below_drewN ?_ _) | (with_reducible refine Below.setCell ?_ ?_ _) | (with_reducible refine Below.trans ?_ (Below.mono (by assumption) ?_)) | (first | omega | (simp only [World.size_alloc, World.size_setCell, World.size_drew]; omega) | (simp; omega) | (simp; done))))⟩
  case round =>
    obtain ⟨k, hk, rfl, hB, hbel⟩ := hrel
    have hsz := hB.lt
    by_cases hlt : k < m
    · obtain ⟨b, off, rfl, hb, hc⟩ := (hr.below hbel).pos (by have := Hm.out; omega)
      have hc0 := (hc k (by have := Hm.out; omega)).1
      have hc1 := (hc k (by have := Hm.out; omega)).2
      have hbb : b < w.heap.size := by
        rcases hr with h | ⟨b', off', e, hlt', _⟩
        · have := Hm.out; rw [h] at this; simp at this; omega
        · injection e with e; injection e with e _; subst e; exact hlt'
      clear hc hr
      obtain ⟨x, y, hxy, hx, hy⟩ := Hin.out k (by have := Hm.out; omega)
      have Hxy := Lib.hid hxy
      rw [hxy] at hc0 hc1
      dsimp only at hc0 hc1
      clear hxy
      have hbd := degs_bd n (es.take k)
      have hlen := degs_len n (es.take k)
      have hbx := hbd x
      have hby := incAt_bd _ x _ hbd y
      have htl : ((es.take k).length : Int) ≤ 1048576 := by have := List.length_take_le k es; omega
      have hB2 := blkI_set (xs' := incAt (degs n (es.take k)) x) (j := x) hB rfl
      have d1 := blkI_cell hB (j := x) (by omega)
      have d2 := blkI_cell hB2 (j := y) (by rw [incAt_len]; omega)
      have f1 := hB.frozen x
      have f2 := hB2.frozen y
      have HB3 := Lib.hid (blkI_set (xs' := incAt (incAt (degs n (es.take k)) x) y) (j := y) hB2 rfl)
      generalize hu : (degs n (es.take k)).getD x 0 = u at *
      have Hu := Lib.hid hu
      generalize hv : (incAt (degs n (es.take k)) x).getD y 0 = v at *
      have Hv := Lib.hid hv
      have e1 : (wr.setCell ⟨w.heap.size, x, none⟩ (.int .i64 (u + 1))).cell? ⟨b, off + k * 2 + 1, none⟩ = some (.int .i64 y) :=
        (World.cell?_setCell_other _ _ _ _ (by intro e; injection e with e; omega)).trans hc1
      clear hbd hlen hB2 hu hv hB
      go_wp2
      refine ⟨⟨k + 1, by omega, by go_num, ?_, by (repeat' (first | (with_reducible exact Below.refl _ _) | (with_reducible assumption) | (with_reducible refine Below.alloc ?_ ?_ _) | (with_reducible refine Below.drew ?_) | (with_reducible refine below_drewN ?_ _) | (with_reducible refine Below.setCell ?_ ?_ _) | (with_reducible refine Below.trans ?_ (Below.mono (by assumption) ?_)) | (first | omega | (simp only [World.size_alloc, World.size_setCell, World.size_drew]; omega) | (simp; omega) | (simp; done))))⟩, by simp [intOf]; omega⟩
      have h3 := HB3.out
      refine Blk.eq_ h3 ?_
      rw [take_snocE es k (by have := Hm.out; omega), Hxy.out, degs_snoc]
      rfl
    · obtain rfl : k = m := by omega
      have hdeg : degs n (es.take k) = degs n es := by rw [List.take_of_length_le (by have := Hm.out; omega)]
      rw [hdeg] at hB
      clear hdeg hr Hin
      have hlen := degs_len n es
      generalize hds : degs n es = ds at *
      clear hds
      go_wp2
      go_loop [7] (fun i => ∃ v : Nat, v ≤ n ∧ i = .int .i64 v ∧ Hid (∀ j, j < v → ds.getD j 0 = 3)) (fun i => n - (intOf i).toNat)
      case atStart => exact ⟨0, Nat.zero_le _, rfl, by intro j hj; omega⟩
      case round =>
        obtain ⟨v, hv, rfl, hE⟩ := hrel
        have Hlen := Lib.hid hlen; clear hlen
        by_cases hlt2 : v < n
        · have d := blkI_cell hB (j := v) (by rw [Hlen.out]; exact hlt2)
          have HB := Lib.hid hB; clear hB
          obtain ⟨x, Hx⟩ : ∃ x, Hid (ds.getD v 0 = x) := ⟨_, rfl⟩
          rw [Hx.out] at d
          by_cases h3 : x = 3
          · subst h3
            go_wp2
            refine ⟨⟨v + 1, by omega, by go_num, ?_⟩, by simp [intOf]; omega⟩
            intro j hj
            by_cases e : j = v
            · subst e; exact Hx.out
            · exact hE.out j (by omega)
          · have h4 : (x == 3) = false := by simpa using h3
            have h5 : (x != 3) = true := by simpa using h3
            have H3 := Lib.hid h3; clear h3
            go_wp2
            go_ret
            refine ⟨?_, hbel⟩
            have : ds.all (fun k => decide (k = 3)) = false := by
              rw [List.all_eq_false]
              refine ⟨ds.getD v 0, ?_, ?_⟩
              · simp only [List.getD_eq_getElem?_getD, List.getElem?_eq_getElem (show v < ds.length by rw [Hlen.out]; exact hlt2), Option.getD_some]
                exact List.getElem_mem _
              · rw [Hx.out]; simpa using H3.out
            rw [← hq.out, this]; rfl
        · obtain rfl : v = n := by omega
          have HB := Lib.hid hB; clear hB
          go_wp2
          go_ret
          refine ⟨?_, hbel⟩
          have : ds.all (fun k => decide (k = 3)) = true := by
            rw [List.all_eq_true]
            intro x hx
            obtain ⟨j, hj, rfl⟩ := List.getElem_of_mem hx
            have := hE.out j (by rw [Hlen.out] at hj; exact hj)
            simp only [List.getD_eq_getElem?_getD, List.getElem?_eq_getElem hj, Option.getD_some] at this
            simpa using this
          rw [← hq.out, this]; rfl
end Go.Proofs.Ytigdfcigoejjjaa
namespace Go.Proofs.Ytigdfcigoejjjaa
open Go.RowKit
set_option linter.unusedSimpArgs false
set_option linter.unusedVariables false

/-- The code of a size and edges. -/
def endsC (q : Bool) : Int := if q then 0 else 2
theorem areEdgesB_no {n : Int} {es : List (Int × Int)} (j : Nat) (hj : j < es.length) (h : edgeOK n (es.getD j (0, 0)).1 (es.getD j (0, 0)).2 = false) : areEdgesB n es = false := by
  cases hq : areEdgesB n es
  · rfl
  · simp only [areEdgesB, Bool.and_eq_true] at hq
    have := List.all_eq_true.1 hq.2.2 (es.getD j (0, 0)) (by
      simp only [List.getD_eq_getElem?_getD, List.getElem?_eq_getElem hj, Option.getD_some]; exact List.getElem_mem hj)
    rw [this] at h; cases h
theorem areEdgesB_yes {n : Int} {es : List (Int × Int)} (h1 : sizeB n = true) (h2 : (es.length : Int) = 3 * n / 2) (h : ∀ j, j < es.length → edgeOK n (es.getD j (0, 0)).1 (es.getD j (0, 0)).2 = true) : areEdgesB n es = true := by
  simp only [areEdgesB, Bool.and_eq_true, decide_eq_true_eq]
  refine ⟨h1, h2, List.all_eq_true.2 fun e he => ?_⟩
  obtain ⟨j, hj, rfl⟩ := List.getElem_of_mem he
  have := h j hj
  simpa only [List.getD_eq_getElem?_getD, List.getElem?_eq_getElem hj, Option.getD_some] using this

set_option maxHeartbeats 1000000 in
theorem l01Ends_b (n : Int) (A : Option Addr) (c : Nat) (es : List (Int × Int)) (w : World) (q : Bool) (hq : Hid (areEdgesB n es = q)) (hl : es.length ≤ 1048576) (hr : RdE w A es) :
    Calls Try.prog 76 #[.int .i64 n, .slice A es.length c] w fun e w' => e = .returned (.int .i64 (endsC q)) ∧ Below w.heap.size w w' := by
  obtain ⟨q1, h1⟩ : ∃ q1, Hid (inB n 2 20 = q1) := ⟨_, rfl⟩
  cases q1
  · have Hq : Hid (false = q) := by show _ = _; rw [← hq.out, areEdgesB, sizeB, h1.out]; rfl
    clear hq hr
    go_enter Try.func76, Try.ntmps76
    go_wp2_with (go_at_call 63; refine (l01In_b _ _ _ _ false h1).mono ?_; rintro e w1 ⟨rfl, rfl⟩)
    go_ret
    exact ⟨by rw [← Hq.out]; rfl, by (repeat' (first | (with_reducible exact Below.refl _ _) | (with_reducible assumption) | (with_reducible refine Below.alloc ?_ ?_ _) | (with_reducible refine Below.drew ?_) | (with_reducible refine below_drewN ?_ _) | (with_reducible refine Below.setCell ?_ ?_ _) | (with_reducible refine Below.trans ?_ (Below.mono (by assumption) ?_)) | (first | omega | (simp only [World.size_alloc, World.size_setCell, World.size_drew]; omega) | (simp; omega) | (simp; done))))⟩
  · obtain ⟨hn1, hn2⟩ := inB_true.1 h1.out
    by_cases h2 : n % 2 = 0
    · have hs : sizeB n = true := sizeB_true.2 ⟨⟨hn1, hn2⟩, h2⟩
      have g1 : (n % 2 == 0) = true := by simpa using h2
      have g2 : (n % 2 != 0) = false := by simpa using h2
      have H2 := Lib.hid h2; clear h2
      by_cases h3 : (es.length : Int) = 3 * n / 2
      · have g3 : ((es.length : Int) == 3 * n / 2) = true := by simpa using h3
        have g4 : ((es.length : Int) != 3 * n / 2) = false := by simpa using h3
        have H3 := Lib.hid h3; clear h3
        have Hs := Lib.hid hs; clear hs
        go_enter Try.func76, Try.ntmps76
        go_wp2_with (go_at_call 63; refine (l01In_b _ _ _ _ true h1).mono ?_; rintro e w1 ⟨rfl, rfl⟩)
        clear g1 g2 g3 g4
        generalize hm : es.length = m at *
        have Hm := Lib.hid hm; clear hm
        go_loopw [5] (fun i wr => ∃ k : Nat, k ≤ m ∧ i = .int .i64 k ∧ Hid (∀ j, j < k → edgeOK n (es.getD j (0, 0)).1 (es.getD j (0, 0)).2 = true) ∧ Below w.heap.size w wr) (fun i _ => m - (intOf i).toNat)
        case atStart => exact ⟨0, Nat.zero_le _, rfl, (by intro j hj; omega), by (repeat' (first | (with_reducible exact Below.refl _ _) | (with_reducible assumption) | (with_reducible refine Below.alloc ?_ ?_ _) | (with_reducible refine Below.drew ?_) | (with_reducible refine below_drewN ?_ _) | (with_reducible refine Below.setCell ?_ ?_ _) | (with_reducible refine Below.trans ?_ (Below.mono (by assumption) ?_)) | (first | omega | (simp only [World.size_alloc, World.size_setCell, World.size_drew]; omega) | (simp; omega) | (simp; done))))⟩
        case round =>
          obtain ⟨k, hk, rfl, hE, hbel⟩ := hrel
          have hsz := hbel.size
          by_cases hlt : k < m
          · obtain ⟨b, off, rfl, hb, hc⟩ := (hr.below hbel).pos (by have := Hm.out; omega)
            have hc0 := (hc k (by have := Hm.out; omega)).1
            have hc1 := (hc k (by have := Hm.out; omega)).2
            clear hc hr
            obtain ⟨x, y, Hx⟩ : ∃ x y, Hid (es.getD k (0, 0) = (x, y)) := ⟨_, _, rfl⟩
            rw [Hx.out] at hc0 hc1
            dsimp only at hc0 hc1
            obtain ⟨p1, P1⟩ : ∃ p1, Hid (inB x 0 (n - 1) = p1) := ⟨_, rfl⟩
            obtain ⟨p2, P2⟩ : ∃ p2, Hid (inB y 0 (n - 1) = p2) := ⟨_, rfl⟩
            have hno : edgeOK n x y = false → areEdgesB n es = false := fun h => areEdgesB_no k (by have := Hm.out; omega) (by rw [Hx.out]; exact h)
            have Hno := Lib.hid hno; clear hno
            cases p1
            · go_wp2
              have w1 : IntKind.i64.wrap (n - 1) = n - 1 := IntWalk.i64_in _ (by omega)
              go_quiet ((go_at_call 63; refine Calls.quiet_of_same (l01In_same _ _ _ _ false P1)))
              go_wp2
              go_ret
              refine ⟨?_, by (repeat' (first | (with_reducible exact Below.refl _ _) | (with_reducible assumption) | (with_reducible refine Below.alloc ?_ ?_ _) | (with_reducible refine Below.drew ?_) | (with_reducible refine below_drewN ?_ _) | (with_reducible refine Below.setCell ?_ ?_ _) | (with_reducible refine Below.trans ?_ (Below.mono (by assumption) ?_)) | (first | omega | (simp only [World.size_alloc, World.size_setCell, World.size_drew]; omega) | (simp; omega) | (simp; done))))⟩
              rw [← hq.out, Hno.out (by simp [edgeOK, P1.out])]; rfl
            · cases p2
              · go_wp2
                have w1 : IntKind.i64.wrap (n - 1) = n - 1 := IntWalk.i64_in _ (by omega)
                go_quiet ((first | (go_at_call 63; refine Calls.quiet_of_same (l01In_same _ _ _ _ true P1)) | (go_at_call 63; refine Calls.quiet_of_same (l01In_same _ _ _ _ false P2))))
                go_wp2
                go_ret
                refine ⟨?_, by (repeat' (first | (with_reducible exact Below.refl _ _) | (with_reducible assumption) | (with_reducible refine Below.alloc ?_ ?_ _) | (with_reducible refine Below.drew ?_) | (with_reducible refine below_drewN ?_ _) | (with_reducible refine Below.setCell ?_ ?_ _) | (with_reducible refine Below.trans ?_ (Below.mono (by assumption) ?_)) | (first | omega | (simp only [World.size_alloc, World.size_setCell, World.size_drew]; omega) | (simp; omega) | (simp; done))))⟩
                rw [← hq.out, Hno.out (by simp [edgeOK, P1.out, P2.out])]; rfl
              · by_cases hxy : x = y
                · subst hxy
                  go_wp2
                  have w1 : IntKind.i64.wrap (n - 1) = n - 1 := IntWalk.i64_in _ (by omega)
                  go_quiet ((go_at_call 63; refine Calls.quiet_of_same (l01In_same _ _ _ _ true P1)))
                  go_wp2
                  go_ret
                  refine ⟨?_, by (repeat' (first | (with_reducible exact Below.refl _ _) | (with_reducible assumption) | (with_reducible refine Below.alloc ?_ ?_ _) | (with_reducible refine Below.drew ?_) | (with_reducible refine below_drewN ?_ _) | (with_reducible refine Below.setCell ?_ ?_ _) | (with_reducible refine Below.trans ?_ (Below.mono (by assumption) ?_)) | (first | omega | (simp only [World.size_alloc, World.size_setCell, World.size_drew]; omega) | (simp; omega) | (simp; done))))⟩
                  rw [← hq.out, Hno.out (by simp [edgeOK])]; rfl
                · have g1 : (x == y) = false := by simpa using hxy
                  have g2 : (x != y) = true := by simpa using hxy
                  have Hxy := Lib.hid hxy; clear hxy
                  go_wp2
                  have w1 : IntKind.i64.wrap (n - 1) = n - 1 := IntWalk.i64_in _ (by omega)
                  go_quiet ((first | (go_at_call 63; refine Calls.quiet_of_same (l01In_same _ _ _ _ true P1)) | (go_at_call 63; refine Calls.quiet_of_same (l01In_same _ _ _ _ true P2))))
                  go_wp2
                  refine ⟨⟨k + 1, by omega, by go_num, ?_, by (repeat' (first | (with_reducible exact Below.refl _ _) | (with_reducible assumption) | (with_reducible refine Below.alloc ?_ ?_ _) | (with_reducible refine Below.drew ?_) | (with_reducible refine below_drewN ?_ _) | (with_reducible refine Below.setCell ?_ ?_ _) | (with_reducible refine Below.trans ?_ (Below.mono (by assumption) ?_)) | (first | omega | (simp only [World.size_alloc, World.size_setCell, World.size_drew]; omega) | (simp; omega) | (simp; done))))⟩, by simp [intOf]; omega⟩
                  intro j hj
                  by_cases e : j = k
                  · subst e
                    rw [Hx.out]; simp [edgeOK, P1.out, P2.out, Hxy.out]
                  · exact hE.out j (by omega)
          · obtain rfl : k = m := by omega
            go_wp2
            go_ret
            refine ⟨?_, hbel⟩
            rw [← hq.out, areEdgesB_yes Hs.out (by rw [Hm.out]; exact H3.out) (fun j hj => hE.out j (by have := Hm.out; omega))]; rfl
      · have g3 : ((es.length : Int) == 3 * n / 2) = false := by simpa using h3
        have g4 : ((es.length : Int) != 3 * n / 2) = true := by simpa using h3
        have Hq : Hid (false = q) := by show _ = _; rw [← hq.out, areEdgesB]; simp [h3]
        clear hq hr h3 hs
        go_enter Try.func76, Try.ntmps76
        go_wp2_with (go_at_call 63; refine (l01In_b _ _ _ _ true h1).mono ?_; rintro e w1 ⟨rfl, rfl⟩)
        go_ret
        exact ⟨by rw [← Hq.out]; rfl, by (repeat' (first | (with_reducible exact Below.refl _ _) | (with_reducible assumption) | (with_reducible refine Below.alloc ?_ ?_ _) | (with_reducible refine Below.drew ?_) | (with_reducible refine below_drewN ?_ _) | (with_reducible refine Below.setCell ?_ ?_ _) | (with_reducible refine Below.trans ?_ (Below.mono (by assumption) ?_)) | (first | omega | (simp only [World.size_alloc, World.size_setCell, World.size_drew]; omega) | (simp; omega) | (simp; done))))⟩
    · have g1 : (n % 2 == 0) = false := by simpa using h2
      have g2 : (n % 2 != 0) = true := by simpa using h2
      have Hq : Hid (false = q) := by show _ = _; rw [← hq.out, areEdgesB, sizeB]; simp [h2]
      clear hq hr h2
      go_enter Try.func76, Try.ntmps76
      go_wp2_with (go_at_call 63; refine (l01In_b _ _ _ _ true h1).mono ?_; rintro e w1 ⟨rfl, rfl⟩)
      go_ret
      exact ⟨by rw [← Hq.out]; rfl, by (repeat' (first | (with_reducible exact Below.refl _ _) | (with_reducible assumption) | (with_reducible refine Below.alloc ?_ ?_ _) | (with_reducible refine Below.drew ?_) | (with_reducible refine below_drewN ?_ _) | (with_reducible refine Below.setCell ?_ ?_ _) | (with_reducible refine Below.trans ?_ (Below.mono (by assumption) ?_)) | (first | omega | (simp only [World.size_alloc, World.size_setCell, World.size_drew]; omega) | (simp; omega) | (simp; done))))⟩
end Go.Proofs.Ytigdfcigoejjjaa
namespace Go.Proofs.Ytigdfcigoejjjaa
open Go.RowKit
set_option linter.unusedSimpArgs false
set_option linter.unusedVariables false

theorem isGraphB_ends {n : Int} {es : List (Int × Int)} (h : areEdgesB n es = false) : isGraphB n es = false := by simp [isGraphB, h]
theorem isGraphB_cubic {n : Int} {es : List (Int × Int)} (h : (degs n.toNat es).all (fun k => decide (k = 3)) = false) : isGraphB n es = false := by simp [isGraphB, h]
theorem isGraphB_gtr {n : Int} {es : List (Int × Int)} (j : Nat) (hj : j < es.length) (h : (es.getD j (0, 0)).2 < (es.getD j (0, 0)).1) : isGraphB n es = false := by
  have : es.all (fun e => decide (e.1 < e.2)) = false := by
    rw [List.all_eq_false]
    refine ⟨es.getD j (0, 0), ?_, by rw [decide_eq_true_eq]; omega⟩
    simp only [List.getD_eq_getElem?_getD, List.getElem?_eq_getElem hj, Option.getD_some]; exact List.getElem_mem hj
  simp [isGraphB, this]
theorem isGraphB_before {n : Int} {es : List (Int × Int)} (i : Nat) (hi : i + 1 < es.length) (h : beforeB (es.getD (i + 1) (0, 0)) (es.getD i (0, 0)) = true) : isGraphB n es = false := by
  rw [beforeB_cmp] at h
  have := sortedB_false es i hi (by simpa using h)
  simp [isGraphB, this]
theorem isGraphB_yes {n : Int} {es : List (Int × Int)} (h1 : areEdgesB n es = true) (h2 : (degs n.toNat es).all (fun k => decide (k = 3)) = true) (h3 : ∀ j, j < es.length → (es.getD j (0, 0)).1 ≤ (es.getD j (0, 0)).2)
    (h4 : ∀ i, i + 1 < es.length → beforeB (es.getD (i + 1) (0, 0)) (es.getD i (0, 0)) = false) : isGraphB n es = true := by
  obtain ⟨_, _, _, _, hne⟩ := areEdgesB_in h1
  simp only [isGraphB, Bool.and_eq_true]
  refine ⟨h1, ?_, ?_, h2⟩
  · rw [List.all_eq_true]
    intro e he
    obtain ⟨j, hj, rfl⟩ := List.getElem_of_mem he
    have a := h3 j hj; have b := hne j hj
    simp only [List.getD_eq_getElem?_getD, List.getElem?_eq_getElem hj, Option.getD_some] at a b
    simp; omega
  · rw [sortedB_true]
    intro i hi
    have := h4 i hi
    rw [beforeB_cmp] at this
    simpa using this

set_option maxHeartbeats 2000000 in
theorem l01Is_b (n : Int) (A : Option Addr) (c : Nat) (es : List (Int × Int)) (w : World) (q : Bool) (hq : Hid (isGraphB n es = q)) (hl : es.length ≤ 1048576) (hr : RdE w A es) :
    Calls Try.prog 45 #[.agg #[.int .i64 n, .slice A es.length c]] w fun e w' => e = .returned (.bool q) ∧ Below w.heap.size w w' := by
  obtain ⟨q1, h1⟩ : ∃ q1, Hid (areEdgesB n es = q1) := ⟨_, rfl⟩
  have c1 := fun W (hW : Below w.heap.size w W) => l01Ends_b n A c es W q1 h1 hl (hr.below hW)
  cases q1
  · have Hq : Hid (false = q) := by show _ = _; rw [← hq.out, isGraphB_ends h1.out]
    clear hq hr
    have c1' : ∀ W (hW : Below w.heap.size w W), Calls Try.prog 76 #[.int .i64 n, .slice A es.length c] W fun e w' => e = .returned (.int .i64 2) ∧ Below W.heap.size W w' := c1
    clear c1
    go_enter Try.func45, Try.ntmps45
    go_wp2_with fail
    refine (c1' _ (by (repeat' (first | (with_reducible exact Below.refl _ _) | (with_reducible assumption) | (with_reducible refine Below.alloc ?_ ?_ _) | (with_reducible refine Below.drew ?_) | (with_reducible refine below_drewN ?_ _) | (with_reducible refine Below.setCell ?_ ?_ _) | (with_reducible refine Below.trans ?_ (Below.mono (by assumption) ?_)) | (first | omega | (simp only [World.size_alloc, World.size_setCell, World.size_drew]; omega) | (simp; omega) | (simp; done)))))).mono ?_
    rintro e w1 ⟨rfl, hb1⟩
    go_wp2
    go_ret
    exact ⟨by rw [← Hq.out]; rfl, by (repeat' (first | (with_reducible exact Below.refl _ _) | (with_reducible assumption) | (with_reducible refine Below.alloc ?_ ?_ _) | (with_reducible refine Below.drew ?_) | (with_reducible refine below_drewN ?_ _) | (with_reducible refine Below.setCell ?_ ?_ _) | (with_reducible refine Below.trans ?_ (Below.mono (by assumption) ?_)) | (first | omega | (simp only [World.size_alloc, World.size_setCell, World.size_drew]; omega) | (simp; omega) | (simp; done))))⟩
  have c1' : ∀ W (hW : Below w.heap.size w W), Calls Try.prog 76 #[.int .i64 n, .slice A es.length c] W fun e w' => e = .returned (.int .i64 0) ∧ Below W.heap.size W w' := c1
  clear c1
  obtain ⟨⟨ha, hb⟩, hx1, hx2, hin, hx3⟩ := areEdgesB_in h1.out
  clear hx1 hx2 hx3
  obtain ⟨m, rfl⟩ : ∃ m : Nat, n = m := ⟨n.toNat, by omega⟩
  rw [Int.toNat_natCast] at hin
  obtain ⟨q4, h4⟩ : ∃ q4, Hid ((degs m es).all (fun k => decide (k = 3)) = q4) := ⟨_, rfl⟩
  have c4 := fun W (hW : Below w.heap.size w W) => l01Cubic_b m A c es W q4 h4 (by omega) hl (hr.below hW) hin
  cases q4
  · have Hq : Hid (false = q) := by show _ = _; rw [← hq.out, isGraphB_cubic (by rw [Int.toNat_natCast]; exact h4.out)]
    clear hq hr hin
    go_enter Try.func45, Try.ntmps45
    go_wp2_with fail
    refine (c1' _ (by (repeat' (first | (with_reducible exact Below.refl _ _) | (with_reducible assumption) | (with_reducible refine Below.alloc ?_ ?_ _) | (with_reducible refine Below.drew ?_) | (with_reducible refine below_drewN ?_ _) | (with_reducible refine Below.setCell ?_ ?_ _) | (with_reducible refine Below.trans ?_ (Below.mono (by assumption) ?_)) | (first | omega | (simp only [World.size_alloc, World.size_setCell, World.size_drew]; omega) | (simp; omega) | (simp; done)))))).mono ?_
    rintro e w1 ⟨rfl, hb1⟩
    simp only [World.size_alloc, World.size_setCell, World.size_drew] at hb1; have B1 : Below w.heap.size w w1 := by (repeat' (first | (with_reducible exact Below.refl _ _) | (with_reducible assumption) | (with_reducible refine Below.alloc ?_ ?_ _) | (with_reducible refine Below.drew ?_) | (with_reducible refine below_drewN ?_ _) | (with_reducible refine Below.setCell ?_ ?_ _) | (with_reducible refine Below.trans ?_ (Below.mono (by assumption) ?_)) | (first | omega | (simp only [World.size_alloc, World.size_setCell, World.size_drew]; omega) | (simp; omega) | (simp; done))))
    have K1 : Blk w1 w.heap.size 32 #[.int .i64 m, .slice A es.length c] := (Blk.new' _ rfl).below hb1 (by omega)
    have d10 := K1.cellAt 0 _ rfl; have d11 := K1.cellAt 1 _ rfl; have z1 := hb1.size; simp only [World.size_alloc, World.size_setCell, World.size_drew] at z1
    go_wp2_with fail
    refine (c4 _ B1).mono ?_
    rintro e w2 ⟨rfl, hb2⟩
    go_wp2
    go_ret
    exact ⟨by rw [← Hq.out]; rfl, by (repeat' (first | (with_reducible exact Below.refl _ _) | (with_reducible assumption) | (with_reducible refine Below.alloc ?_ ?_ _) | (with_reducible refine Below.drew ?_) | (with_reducible refine below_drewN ?_ _) | (with_reducible refine Below.setCell ?_ ?_ _) | (with_reducible refine Below.trans ?_ (Below.mono (by assumption) ?_)) | (first | omega | (simp only [World.size_alloc, World.size_setCell, World.size_drew]; omega) | (simp; omega) | (simp; done))))⟩
  · clear hin
    have hcc := c
    generalize hm : es.length = l at *
    have Hm := Lib.hid hm; clear hm
    go_enter Try.func45, Try.ntmps45
    go_wp2_with fail
    refine (c1' _ (by (repeat' (first | (with_reducible exact Below.refl _ _) | (with_reducible assumption) | (with_reducible refine Below.alloc ?_ ?_ _) | (with_reducible refine Below.drew ?_) | (with_reducible refine below_drewN ?_ _) | (with_reducible refine Below.setCell ?_ ?_ _) | (with_reducible refine Below.trans ?_ (Below.mono (by assumption) ?_)) | (first | omega | (simp only [World.size_alloc, World.size_setCell, World.size_drew]; omega) | (simp; omega) | (simp; done)))))).mono ?_
    rintro e w1 ⟨rfl, hb1⟩
    simp only [World.size_alloc, World.size_setCell, World.size_drew] at hb1; have B1 : Below w.heap.size w w1 := by (repeat' (first | (with_reducible exact Below.refl _ _) | (with_reducible assumption) | (with_reducible refine Below.alloc ?_ ?_ _) | (with_reducible refine Below.drew ?_) | (with_reducible refine below_drewN ?_ _) | (with_reducible refine Below.setCell ?_ ?_ _) | (with_reducible refine Below.trans ?_ (Below.mono (by assumption) ?_)) | (first | omega | (simp only [World.size_alloc, World.size_setCell, World.size_drew]; omega) | (simp; omega) | (simp; done))))
    have K1 : Blk w1 w.heap.size 32 #[.int .i64 m, .slice A l c] := (Blk.new' _ rfl).below hb1 (by omega)
    have d10 := K1.cellAt 0 _ rfl; have d11 := K1.cellAt 1 _ rfl; have z1 := hb1.size; simp only [World.size_alloc, World.size_setCell, World.size_drew] at z1
    go_wp2_with fail
    refine (c4 _ B1).mono ?_
    rintro e w2 ⟨rfl, hb2⟩
    have B2 := B1.trans (hb2.mono B1.size); have K2 := K1.below hb2 K1.lt; have d20 := K2.cellAt 0 _ rfl; have d21 := K2.cellAt 1 _ rfl; have z2 := B2.size
    go_wp2_with fail
    clear c1' c4 d10 d11 d20 d21
    go_loopw [3] (fun i wr => ∃ k : Nat, k ≤ l ∧ i = .int .i64 k ∧ Hid ((∀ j, j < k → (es.getD j (0, 0)).1 ≤ (es.getD j (0, 0)).2) ∧ ∀ i, i + 1 < k → beforeB (es.getD (i + 1) (0, 0)) (es.getD i (0, 0)) = false) ∧ Blk wr w.heap.size 32 #[.int .i64 m, .slice A l c] ∧ Below w.heap.size w wr) (fun i _ => l - (intOf i).toNat)
    case atStart => exact ⟨0, Nat.zero_le _, rfl, ⟨by intro j hj; omega, by intro j hj; omega⟩, K2, B2⟩
    case round =>
      obtain ⟨k, hk, rfl, hE, K, hbel⟩ := hrel
      have hsz := hbel.size
      have hsz' := K.lt
      have k0 := K.cellAt 0 _ rfl
      have k1 := K.cellAt 1 _ rfl
      have HK := Lib.hid K; clear K
      by_cases hlt : k < l
      · obtain ⟨b, off, rfl, hb, hc⟩ := (hr.below hbel).pos (by have := Hm.out; omega)
        have hc0 := (hc k (by have := Hm.out; omega)).1
        have hc1 := (hc k (by have := Hm.out; omega)).2
        obtain ⟨x, y, Hx⟩ : ∃ x y, Hid (es.getD k (0, 0) = (x, y)) := ⟨_, _, rfl⟩
        rw [Hx.out] at hc0 hc1
        dsimp only at hc0 hc1
        by_cases hgt : y < x
        · have g1 : decide (y < x) = true := by simpa using hgt
          clear hc hr
          go_wp2
          go_quiet (fail)
          go_wp2
          go_ret
          refine ⟨?_, by (repeat' (first | (with_reducible exact Below.refl _ _) | (with_reducible assumption) | (with_reducible refine Below.alloc ?_ ?_ _) | (with_reducible refine Below.drew ?_) | (with_reducible refine below_drewN ?_ _) | (with_reducible refine Below.setCell ?_ ?_ _) | (with_reducible refine Below.trans ?_ (Below.mono (by assumption) ?_)) | (first | omega | (simp only [World.size_alloc, World.size_setCell, World.size_drew]; omega) | (simp; omega) | (simp; done))))⟩
          rw [← hq.out, isGraphB_gtr k (by have := Hm.out; omega) (by rw [Hx.out]; exact hgt)]; rfl
        · have g1 : decide (y < x) = false := by simpa using hgt
          by_cases hk0 : 0 < k
          · obtain ⟨i, rfl⟩ : ∃ i, k = i + 1 := ⟨k - 1, by omega⟩
            have hd0 := (hc i (by have := Hm.out; omega)).1
            have hd1 := (hc i (by have := Hm.out; omega)).2
            clear hc hr
            obtain ⟨x', y', Hy⟩ : ∃ x y, Hid (es.getD i (0, 0) = (x, y)) := ⟨_, _, rfl⟩
            rw [Hy.out] at hd0 hd1
            dsimp only at hd0 hd1
            obtain ⟨r, Hr⟩ : ∃ r, Hid (beforeB (x, y) (x', y') = r) := ⟨_, rfl⟩
            have g2 : decide ((0 : Int) < (i : Int) + 1) = true := by simp only [decide_eq_true_eq]; omega
            have g5 : (0 : Int) < (i : Int) + 1 := by omega
            have g6 : (i : Int) + 1 < l := by omega
            rw [show (((i + 1 : Nat) : Int)) = (i : Int) + 1 by omega]
            go_wp2
            have hw1 : IntKind.i64.wrap ((i : Int) + 1 - 1) = i := by rw [show (i : Int) + 1 - 1 = i by omega]; exact IntWalk.i64_in _ (by omega)
            have hw2 : IntKind.i64.wrap (i : Int) = i := IntWalk.i64_in _ (by omega)
            have t1 : ((i : Int) + 1).toNat = i + 1 := by omega
            have b1 : (0 : Int) ≤ (i : Int) + 1 := by omega
            have b3 : (i : Int) < l := by omega
            have b4 : (0 : Int) ≤ (i : Int) := by omega
            have b5 : i < l := by omega
            go_region_held3 (fun w' => w'.cell? ⟨b, off + (i + 1) * 2, none⟩ = some (.int .i64 x) ∧ w'.cell? ⟨b, off + (i + 1) * 2 + 1, none⟩ = some (.int .i64 y) ∧ w'.cell? ⟨b, off + i * 2, none⟩ = some (.int .i64 x') ∧ w'.cell? ⟨b, off + i * 2 + 1, none⟩ = some (.int .i64 y') ∧ w'.cell? ⟨w.heap.size, 0, none⟩ = some (.int .i64 m) ∧ w'.cell? ⟨w.heap.size, 1, none⟩ = some (.slice (some ⟨b, off, none⟩) l c)) (first | go_keep | (obtain ⟨hq, _⟩ := bcell ‹Below _ _ _›; (repeat' apply And.intro) <;> (rw [hq _ _ (by first | assumption | omega | (simp; done) | (simp; omega) | (simp; assumption))] <;> (first | assumption | (simp [*]; done)))))
              (first | (go_at_call 78; refine (l01Before_b _ _ _ _ _ r Hr).mono ?_; rintro e w3 ⟨rfl, hb3⟩))
            clear hw1 hw2 t1 b1 b3 b4 b5
            cases r
            · go_wp2
              refine ⟨⟨i + 1 + 1, by omega, by go_num, ⟨?_, ?_⟩, (HK.out.drew).below hb3 hsz', by (repeat' (first | (with_reducible exact Below.refl _ _) | (with_reducible assumption) | (with_reducible refine Below.alloc ?_ ?_ _) | (with_reducible refine Below.drew ?_) | (with_reducible refine below_drewN ?_ _) | (with_reducible refine Below.setCell ?_ ?_ _) | (with_reducible refine Below.trans ?_ (Below.mono (by assumption) ?_)) | (first | omega | (simp only [World.size_alloc, World.size_setCell, World.size_drew]; omega) | (simp; omega) | (simp; done))))⟩, by simp [intOf]; omega⟩
              · intro j hj
                by_cases e : j = i + 1
                · rw [e, Hx.out]; show x ≤ y; omega
                · exact hE.out.1 j (by omega)
              · intro j hj
                by_cases e : j = i
                · subst e; rw [Hx.out, Hy.out]; exact Hr.out
                · exact hE.out.2 j (by omega)
            · go_wp2
              go_ret
              refine ⟨?_, by (repeat' (first | (with_reducible exact Below.refl _ _) | (with_reducible assumption) | (with_reducible refine Below.alloc ?_ ?_ _) | (with_reducible refine Below.drew ?_) | (with_reducible refine below_drewN ?_ _) | (with_reducible refine Below.setCell ?_ ?_ _) | (with_reducible refine Below.trans ?_ (Below.mono (by assumption) ?_)) | (first | omega | (simp only [World.size_alloc, World.size_setCell, World.size_drew]; omega) | (simp; omega) | (simp; done))))⟩
              rw [← hq.out, isGraphB_before i (by have := Hm.out; omega) (by rw [Hx.out, Hy.out]; exact Hr.out)]; rfl
          · have g2 : decide ((0 : Int) < (k : Int)) = false := by simpa using hk0
            have g3 : decide (0 < k) = false := by simpa using hk0
            have g4 : (0 : Int) ≤ (k : Int) := by omega
            clear hc hr
            go_wp2
            go_quiet (fail)
            go_wp2
            refine ⟨⟨k + 1, by omega, by go_num, ⟨?_, by intro i hi; omega⟩, HK.out, by (repeat' (first | (with_reducible exact Below.refl _ _) | (with_reducible assumption) | (with_reducible refine Below.alloc ?_ ?_ _) | (with_reducible refine Below.drew ?_) | (with_reducible refine below_drewN ?_ _) | (with_reducible refine Below.setCell ?_ ?_ _) | (with_reducible refine Below.trans ?_ (Below.mono (by assumption) ?_)) | (first | omega | (simp only [World.size_alloc, World.size_setCell, World.size_drew]; omega) | (simp; omega) | (simp; done))))⟩, by simp [intOf]; omega⟩
            intro j hj
            obtain rfl : j = k := by omega
            rw [Hx.out]; show x ≤ y; omega
      · obtain rfl : k = l := by omega
        go_wp2
        go_ret
        refine ⟨?_, hbel⟩
        rw [← hq.out, isGraphB_yes h1.out (by rw [Int.toNat_natCast]; exact h4.out) (fun j hj => hE.out.1 j (by have := Hm.out; omega)) (fun j hj => hE.out.2 j (by have := Hm.out; omega))]; rfl
end Go.Proofs.Ytigdfcigoejjjaa
