/- The reference's test of graphs: l01In, l01Ends, l01Cubic, l01Before. -/
import Derived.Test.YtblidpodbpoaeaaIs7
namespace Go.Proofs.Ytblidpodbpoaeaa
open Go.RowKit
set_option linter.unusedSimpArgs false
set_option linter.unusedVariables false

set_option maxHeartbeats 400000 in
theorem l01In_b (n lo hi : Int) (w : World) (q : Bool) (hq : Hid (inB n lo hi = q)) :
    Calls Try.prog 74 #[.int .i64 n, .int .i64 lo, .int .i64 hi] w fun e w' => e = .returned (.bool q) ∧ w = w' := by
  by_cases h : lo ≤ n
  · have hd : decide (lo ≤ n) = true := by simpa using h
    have hq' : decide (n ≤ hi) = q := by rw [← hq.out]; simp [inB, h]
    have Hq := Lib.hid hq'; clear hq'
    go_enter Try.func74, Try.ntmps74
    go_wp2
    go_ret
    exact ⟨by rw [← Hq.out]; rfl, rfl⟩
  · have hd : decide (lo ≤ n) = false := by simpa using h
    have hq' : false = q := by rw [← hq.out]; simp [inB, h]
    have Hq := Lib.hid hq'; clear hq'
    go_enter Try.func74, Try.ntmps74
    go_wp2
    go_ret
    exact ⟨by rw [← Hq.out]; rfl, rfl⟩
theorem l01In_same (n lo hi : Int) (w : World) (q : Bool) (hq : Hid (inB n lo hi = q)) :
    Calls Try.prog 74 #[.int .i64 n, .int .i64 lo, .int .i64 hi] w fun e w' => e = .returned (.bool q) ∧ w' = w :=
  (l01In_b n lo hi w q hq).mono fun _ _ ⟨h, h'⟩ => ⟨h, h'.symm⟩

/-- The order of edges, as the reference has it. -/
def beforeB (a b : Int × Int) : Bool := decide (a.1 < b.1) || (decide (a.1 = b.1) && decide (a.2 < b.2))
theorem beforeB_cmp (a b : Int × Int) : beforeB a b = decide (cmpE a b < 0) := by
  unfold beforeB cmpE cmpI
  by_cases h1 : a.1 < b.1
  · simp [h1]
  · by_cases h2 : b.1 < a.1
    · have h3 : ¬ a.1 = b.1 := by omega
      simp [h1, h2, h3]
    · have h3 : a.1 = b.1 := by omega
      simp [h3]
      by_cases h4 : a.2 < b.2
      · simp [h4]
      · by_cases h5 : b.2 < a.2 <;> simp [h4, h5]

set_option maxHeartbeats 400000 in
theorem l01Before_b (a b c d : Int) (w : World) (q : Bool) (hq : Hid (beforeB (a, b) (c, d) = q)) :
    Calls Try.prog 90 #[.agg #[.int .i64 a, .int .i64 b], .agg #[.int .i64 c, .int .i64 d]] w fun e w' => e = .returned (.bool q) ∧ Below w.heap.size w w' := by
  by_cases h : a < c
  · have hd : decide (a < c) = true := by simpa using h
    have Hq : Hid (true = q) := by show _ = _; rw [← hq.out]; simp [beforeB, h]
    clear hq
    go_enter Try.func90, Try.ntmps90
    go_wp2
    go_ret
    exact ⟨by rw [← Hq.out]; rfl, by (repeat' (first | (with_reducible exact Below.refl _ _) | (with_reducible assumption) | (with_reducible refine Below.alloc ?_ ?_ _) | (with_reducible refine Below.drew ?_) | (with_reducible refine below_drewN ?_ _) | (with_reducible refine Below.setCell ?_ ?_ _) | (with_reducible refine Below.trans ?_ (Below.mono (by assumption) ?_)) | (first | omega | (simp only [World.size_alloc, World.size_setCell, World.size_drew]; omega) | (simp; omega) | (simp; done))))⟩
  · have hd : decide (a < c) = false := by simpa using h
    by_cases h2 : a = c
    · subst h2
      have Hq : Hid (decide (b < d) = q) := by show _ = _; rw [← hq.out]; simp [beforeB]
      clear hq
      go_enter Try.func90, Try.ntmps90
      go_wp2
      go_ret
      exact ⟨by rw [← Hq.out]; rfl, by (repeat' (first | (with_reducible exact Below.refl _ _) | (with_reducible assumption) | (with_reducible refine Below.alloc ?_ ?_ _) | (with_reducible refine Below.drew ?_) | (with_reducible refine below_drewN ?_ _) | (with_reducible refine Below.setCell ?_ ?_ _) | (with_reducible refine Below.trans ?_ (Below.mono (by assumption) ?_)) | (first | omega | (simp only [World.size_alloc, World.size_setCell, World.size_drew]; omega) | (simp; omega) | (simp; done))))⟩
    · have hd2 : (a == c) = false := by simpa using h2
      have Hq : Hid (false = q) := by show _ = _; rw [← hq.out]; simp [beforeB, h, h2]
      clear hq
      go_enter Try.func90, Try.ntmps90
      go_wp2
      go_ret
      exact ⟨by rw [← Hq.out]; rfl, by (repeat' (first | (with_reducible exact Below.refl _ _) | (with_reducible assumption) | (with_reducible refine Below.alloc ?_ ?_ _) | (with_reducible refine Below.drew ?_) | (with_reducible refine below_drewN ?_ _) | (with_reducible refine Below.setCell ?_ ?_ _) | (with_reducible refine Below.trans ?_ (Below.mono (by assumption) ?_)) | (first | omega | (simp only [World.size_alloc, World.size_setCell, World.size_drew]; omega) | (simp; omega) | (simp; done))))⟩

set_option maxHeartbeats 1000000 in
theorem l01Cubic_b (n : Nat) (A : Option Addr) (c : Nat) (es : List (Int × Int)) (w : World) (q : Bool) (hq : Hid ((degs n es).all (fun k => decide (k = 3)) = q)) (hn : n ≤ 1000) (hl : es.length ≤ 1048576) (hr : RdE w A es) (hin : InN n es) :
    Calls Try.prog 89 #[.int .i64 n, .slice A es.length c] w fun e w' => e = .returned (.bool q) ∧ Below w.heap.size w w' := by
  have hmk := mk_row Try.underlying43 infoI n (by omega) (by omega)
  simp only [made_int] at hmk
  generalize hm : es.length = m at *
  have Hm := Lib.hid hm; clear hm
  have Hin := Lib.hid hin; clear hin
  go_enter Try.func89, Try.ntmps89
  go_wp2
  go_loopw [6] (fun i wr => ∃ k : Nat, k ≤ m ∧ i = .int .i64 k ∧ Blk wr w.heap.size 2 (cI (degs n (es.take k))).toArray ∧ Below w.heap.size w wr) (fun i _ => m - (intOf i).toNat)
  case atStart => exact ⟨0, Nat.zero_le _, rfl, (by simp only [List.take_zero]; exact Blk.new _ _ _), by (repeat' (first | (with_reducible exact Below.refl _ _) | (with_reducible assumption) | (with_reducible refine Below.alloc ?_ ?_ _) | (with_reducible refine Below.drew ?_) | (with_reducible refine below_drewN ?_ _) | (with_reducible refine Below.setCell ?_ ?_ _) | (with_reducible refine Below.trans ?_ (Below.mono (by assumption) ?_)) | (first | omega | (simp only [World.size_alloc, World.size_setCell, World.size_drew]; omega) | (simp; omega) | (simp; done))))⟩
  case round =>
    obtain ⟨k, hk, rfl, hB, hbel⟩ := hrel
    have hsz := hB.lt
    by_cases hlt : k < m
    · obtain ⟨b, off, rfl, hb, hc⟩ := (hr.below hbel).pos (by have := Hm.out; omega)
      have hc0 := (hc k (by have := Hm.out; omega)).1
      have hc1 := (hc k (by have := Hm.out; omega)).2
      have hbb : b < w.heap.size := by
        rcases hr with h | ⟨b', off', e, hlt', _⟩
        · have := Hm.out; rw [h] at this; simp at this; omega
        · injection e with e; injection e with e _; subst e; exact hlt'
      clear hc hr
      obtain ⟨x, y, hxy, hx, hy⟩ := Hin.out k (by have := Hm.out; omega)
      have Hxy := Lib.hid hxy
      rw [hxy] at hc0 hc1
      dsimp only at hc0 hc1
      clear hxy
      have hbd := degs_bd n (es.take k)
      have hlen := degs_len n (es.take k)
      have hbx := hbd x
      have hby := incAt_bd _ x _ hbd y
      have htl : ((es.take k).length : Int) ≤ 1048576 := by have := List.length_take_le k es; omega
      have hB2 := blkI_set (xs' := incAt (degs n (es.take k)) x) (j := x) hB rfl
      have d1 := blkI_cell hB (j := x) (by omega)
      have d2 := blkI_cell hB2 (j := y) (by rw [incAt_len]; omega)
      have f1 := hB.frozen x
      have f2 := hB2.frozen y
      have HB3 := Lib.hid (blkI_set (xs' := incAt (incAt (degs n (es.take k)) x) y) (j := y) hB2 rfl)
      generalize hu : (degs n (es.take k)).getD x 0 = u at *
      have Hu := Lib.hid hu
      generalize hv : (incAt (degs n (es.take k)) x).getD y 0 = v at *
      have Hv := Lib.hid hv
      have e1 : (wr.setCell ⟨w.heap.size, x, none⟩ (.int .i64 (u + 1))).cell? ⟨b, off + k * 2 + 1, none⟩ = some (.int .i64 y) :=
        (World.cell?_setCell_other _ _ _ _ (by intro e; injection e with e; omega)).trans hc1
      clear hbd hlen hB2 hu hv hB
      go_wp2
      refine ⟨⟨k + 1, by omega, by go_num, ?_, by (repeat' (first | (with_reducible exact Below.refl _ _) | (with_reducible assumption) | (with_reducible refine Below.alloc ?_ ?_ _) | (with_reducible refine Below.drew ?_) | (with_reducible refine below_drewN ?_ _) | (with_reducible refine Below.setCell ?_ ?_ _) | (with_reducible refine Below.trans ?_ (Below.mono (by assumption) ?_)) | (first | omega | (simp only [World.size_alloc, World.size_setCell, World.size_drew]; omega) | (simp; omega) | (simp; done))))⟩, by simp [intOf]; omega⟩
      have h3 := HB3.out
      refine Blk.eq_ h3 ?_
      rw [take_snocE es k (by have := Hm.out; omega), Hxy.out, degs_snoc]
      rfl
    · obtain rfl : k = m := by omega
      have hdeg : degs n (es.take k) = degs n es := by rw [List.take_of_length_le (by have := Hm.out; omega)]
      rw [hdeg] at hB
      clear hdeg hr Hin
      have hlen := degs_len n es
      generalize hds : degs n es = ds at *
      clear hds
      go_wp2
      go_loop [7] (fun i => ∃ v : Nat, v ≤ n ∧ i = .int .i64 v ∧ Hid (∀ j, j < v → ds.getD j 0 = 3)) (fun i => n - (intOf i).toNat)
      case atStart => exact ⟨0, Nat.zero_le _, rfl, by intro j hj; omega⟩
      case round =>
        obtain ⟨v, hv, rfl, hE⟩ := hrel
        have Hlen := Lib.hid hlen; clear hlen
        by_cases hlt2 : v < n
        · have d := blkI_cell hB (j := v) (by rw [Hlen.out]; exact hlt2)
          have HB := Lib.hid hB; clear hB
          obtain ⟨x, Hx⟩ : ∃ x, Hid (ds.getD v 0 = x) := ⟨_, rfl⟩
          rw [Hx.out] at d
          by_cases h3 : x = 3
          · subst h3
            go_wp2
            refine ⟨⟨v + 1, by omega, by go_num, ?_⟩, by simp [intOf]; omega⟩
            intro j hj
            by_cases e : j = v
            · subst e; exact Hx.out
            · exact hE.out j (by omega)
          · have h4 : (x == 3) = false := by simpa using h3
            have h5 : (x != 3) = true := by simpa using h3
            have H3 := Lib.hid h3; clear h3
            go_wp2
            go_ret
            refine ⟨?_, hbel⟩
            have : ds.all (fun k => decide (k = 3)) = false := by
              rw [List.all_eq_false]
              refine ⟨ds.getD v 0, ?_, ?_⟩
              · simp only [List.getD_eq_getElem?_getD, List.getElem?_eq_getElem (show v < ds.length by rw [Hlen.out]; exact hlt2), Option.getD_some]
                exact List.getElem_mem _
              · rw [Hx.out]; simpa using H3.out
            rw [← hq.out, this]; rfl
        · obtain rfl : v = n := by omega
          have HB := Lib.hid hB; clear hB
          go_wp2
          go_ret
          refine ⟨?_, hbel⟩
          have : ds.all (fun k => decide (k = 3)) = true := by
            rw [List.all_eq_true]
            intro x hx
            obtain ⟨j, hj, rfl⟩ := List.getElem_of_mem hx
            have := hE.out j (by rw [Hlen.out] at hj; exact hj)
            simp only [List.getD_eq_getElem?_getD, List.getElem?_eq_getElem hj, Option.getD_some] at this
            simpa using this
          rw [← hq.out, this]; rfl
end Go.Proofs.Ytblidpodbpoaeaa
