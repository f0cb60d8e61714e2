/- Walks of the functions by which the laws copy and compare graphs and lists. -/
/- Walks of the functions by which the laws compare graphs. -/
/- Walks of the functions by which the laws compare graphs. -/
import Derived.Test.YtigdfcigoejjjaaBase
namespace Go.Proofs.Ytigdfcigoejjjaa
open Go.RowKit
set_option linter.unusedSimpArgs false
set_option linter.unusedVariables false

theorem infoE : (Try.prog.info? 83).map (fun i => (i.zero, i.size, i.bytes)) = some (some (.agg #[.int .i64 0, .int .i64 0]), 2, 16) := by kernel_rfl
theorem infoI : (Try.prog.info? 2).map (fun i => (i.zero, i.size, i.bytes)) = some (some (.int .i64 0), 1, 8) := by kernel_rfl

set_option maxHeartbeats 400000 in
theorem toEdge_any (a b : Int) (w : World) :
    Calls Try.prog 65 #[.agg #[.int .i64 a, .int .i64 b]] w fun e w' => e = .returned (.agg #[.int .i64 a, .int .i64 b]) ∧ Below w.heap.size w w' := by
  go_enter Try.func65, Try.ntmps65
  go_wp2
  go_rounds 3
  refine bodyPost_ret (v := .agg #[.int .i64 a, .int .i64 b]) (by simp [results, Try.results65, go_sem]) rfl ⟨rfl, ?_⟩
  go_grown

/-- The first k of es, the rest zeros. -/
def upToE (es : List (Int × Int)) (k : Nat) : List (Int × Int) := es.take k ++ List.replicate (es.length - k) (0, 0)

theorem upToE_zero (es : List (Int × Int)) : upToE es 0 = List.replicate es.length (0, 0) := by simp [upToE]
theorem upToE_all (es : List (Int × Int)) : upToE es es.length = es := by simp [upToE]
theorem upToE_len (es : List (Int × Int)) (k : Nat) (h : k ≤ es.length) : (upToE es k).length = es.length := by simp [upToE]; omega
theorem upToE_set (es : List (Int × Int)) (k : Nat) (h : k < es.length) : (upToE es k).set k (es[k].1, es[k].2) = upToE es (k + 1) := by
  unfold upToE
  obtain ⟨m, hm⟩ : ∃ m, es.length - k = m + 1 := ⟨es.length - k - 1, by omega⟩
  have h2 : es.take (k + 1) = es.take k ++ [es[k]] := List.take_succ_eq_append_getElem h
  rw [hm, show es.length - (k + 1) = m by omega, List.replicate_succ, h2, List.set_append_right _ _ (by simp; omega)]
  simp only [List.length_take, Nat.min_eq_left (Nat.le_of_lt h), Nat.sub_self, List.set_cons_zero, List.append_assoc, List.singleton_append]
theorem blkE_store {w : World} {g t : Nat} {es es' : List (Int × Int)} {j : Nat} {a b : Int} (h : Blk w g t (cE es).toArray) (he : es.set j (a, b) = es') :
    Blk ((w.setCell ⟨g, j * 2, none⟩ (.int .i64 a)).setCell ⟨g, j * 2 + 1, none⟩ (.int .i64 b)) g t (cE es').toArray := by
  have := (h.set_ (j * 2) (.int .i64 a)).set_ (j * 2 + 1) (.int .i64 b)
  refine this.eq_ ?_
  rw [← he, cE_set]; simp
theorem blkE_cells {w : World} {g t : Nat} {es : List (Int × Int)} {j : Nat} (h : Blk w g t (cE es).toArray) (hj : j < es.length) :
    w.cell? ⟨g, j * 2, none⟩ = some (.int .i64 (es.getD j (0, 0)).1) ∧ w.cell? ⟨g, j * 2 + 1, none⟩ = some (.int .i64 (es.getD j (0, 0)).2) :=
  ⟨h.cellAt _ _ (by simpa using getD_cE0 es j hj), h.cellAt _ _ (by simpa using getD_cE1 es j hj)⟩

set_option maxHeartbeats 400000 in
theorem toEdgeS_any (A : Option Addr) (c : Nat) (es : List (Int × Int)) (w : World) (hl : es.length ≤ 1048576) (hr : RdE w A es) :
    Calls Try.prog 35 #[.slice A es.length c] w fun e w' => e = .returned (.slice (some ⟨w.heap.size, 0, none⟩) es.length es.length) ∧ Blk w' w.heap.size 83 (cE es).toArray ∧ Below w.heap.size w w' := by
  have hmk := mk_row Try.underlying30 infoE es.length (by omega) (by omega)
  simp only [made_edge] at hmk
  go_enter Try.func35, Try.ntmps35
  go_wp2
  go_loopw [4] (fun i wr => ∃ k : Nat, k ≤ es.length ∧ i = .int .i64 k ∧ Blk wr w.heap.size 83 (cE (upToE es k)).toArray ∧ Below w.heap.size w wr) (fun i _ => es.length - (intOf i).toNat)
  case atStart => exact ⟨0, Nat.zero_le _, rfl, by rw [upToE_zero]; exact Blk.new _ _ _, by go_grown⟩
  case round =>
    obtain ⟨k, hk, rfl, hB, hbel⟩ := hrel
    by_cases hlt : k < es.length
    · obtain ⟨b, off, rfl, hb, hc⟩ := (hr.below hbel).pos (by omega)
      have hc0 := (hc k hlt).1
      have hc1 := (hc k hlt).2
      clear hc hr
      go_wp2_with fail
      refine (toEdge_any _ _ _).mono ?_
      rintro e w2 ⟨rfl, hb2⟩
      have hB2 := hB.below hb2 hB.lt
      obtain ⟨d0, d1⟩ := blkE_cells hB2 (j := k) (by rw [upToE_len es k hk]; exact hlt)
      have f0 := hB2.frozen (k * 2)
      have f1 := hB2.frozen (k * 2 + 1)
      go_wp2
      go_roundw
      case rel => exact ⟨k + 1, by omega, by go_num, blkE_store hB2 (upToE_set es k hlt), (hbel.trans (hb2.mono (Nat.le_of_lt hB.lt))).setCell (Nat.le_refl _) _ |>.setCell (Nat.le_refl _) _⟩
      case measure => simp [intOf]; omega
    · obtain rfl : k = es.length := by omega
      rw [upToE_all] at hB
      have HB := Lib.hid hB; clear hB
      go_wp2
      go_ret
      exact ⟨rfl, HB.out, hbel⟩

set_option maxHeartbeats 400000 in
theorem toGraph_any (n : Int) (A : Option Addr) (c : Nat) (es : List (Int × Int)) (w : World) (hl : es.length ≤ 1048576) (hr : RdE w A es) :
    Calls Try.prog 11 #[.agg #[.int .i64 n, .slice A es.length c]] w fun e w' => ∃ g, e = .returned (.agg #[.int .i64 n, .slice (some ⟨g, 0, none⟩) es.length es.length]) ∧ w.heap.size ≤ g ∧ Blk w' g 83 (cE es).toArray ∧ Below w.heap.size w w' := by
  go_enter Try.func11, Try.ntmps11
  go_wp2_with fail
  refine (toEdgeS_any _ _ _ _ hl (hr.below (by go_grown))).mono ?_
  rintro e w1 ⟨rfl, hB, hb⟩
  obtain ⟨hc, hf⟩ := bcell hb
  simp only [World.size_alloc, World.size_setCell, World.size_drew] at hB hb hc hf
  have HB := Lib.hid hB; clear hB hr
  go_wp2
  refine ret_cell Try.results11 Try.underlying32 rfl (by kernel_rfl) rfl (((((Blk.new' _ (by simp)).alloc _).below hb (by omega)).far (by simp) _).set_ _ _ |>.set_ _ _) rfl rfl ⟨_, rfl, by omega, ?_, ?_⟩
  · have := HB.out
    (repeat' (first | (with_reducible assumption) | (with_reducible refine Blk.far ?_ (by first | omega | (simp only [World.size_alloc, World.size_setCell, World.size_drew]; omega) | (simp; omega) | (simp; done)) _) | (with_reducible refine Blk.alloc ?_ _) | (with_reducible refine Blk.below ?_ (by assumption) (by first | omega | (simp only [World.size_alloc, World.size_setCell, World.size_drew]; omega) | (simp; omega) | (simp; done))) | (with_reducible refine Blk.drew ?_) | (with_reducible refine Blk.drewN ?_ _)))
  · (repeat' (first | (with_reducible exact Below.refl _ _) | (with_reducible assumption) | (with_reducible refine Below.alloc ?_ ?_ _) | (with_reducible refine Below.drew ?_) | (with_reducible refine below_drewN ?_ _) | (with_reducible refine Below.setCell ?_ ?_ _) | (with_reducible refine Below.trans ?_ (Below.mono (by assumption) ?_)) | (first | omega | (simp only [World.size_alloc, World.size_setCell, World.size_drew]; omega) | (simp; omega) | (simp; done))))

set_option maxHeartbeats 400000 in
theorem szEdgeS_any (A : Option Addr) (m c : Nat) (left : Int) (w : World) (hl : left = 1048576) (hm : m ≤ 9223372036854775807) :
    Calls Try.prog 32 #[.slice A m c, .int .i64 left] w fun e w' => e = .returned (.int .i64 (if m ≤ 1048576 then 1048576 - m else -1)) ∧ w = w' := by
  subst hl
  by_cases h : m ≤ 1048576
  · have h2 : ¬ (1048576 - (m : Int) < 0) := by omega
    rw [if_pos h]
    go_enter Try.func32, Try.ntmps32
    go_wp2
    go_ret
    exact ⟨rfl, rfl⟩
  · have h2 : (1048576 - (m : Int) < 0) := by omega
    rw [if_neg h]
    go_enter Try.func32, Try.ntmps32
    go_wp2
    go_ret
    exact ⟨rfl, rfl⟩
set_option maxHeartbeats 400000 in
theorem szGraph_any (n : Int) (A : Option Addr) (m c : Nat) (w : World) (hm : m ≤ 9223372036854775807) :
    Calls Try.prog 9 #[.agg #[.int .i64 n, .slice A m c], .int .i64 1048576] w fun e w' => e = .returned (.int .i64 (if m ≤ 1048576 then 1048576 - m else -1)) ∧ Below w.heap.size w w' := by
  by_cases h : m ≤ 1048576
  · have h2 : ¬ (1048576 - (m : Int) < 0) := by omega
    have hc := fun W => szEdgeS_any A m c 1048576 W rfl hm
    rw [if_pos h] at hc ⊢
    go_enter Try.func9, Try.ntmps9
    go_wp2_with fail
    refine (hc _).mono ?_
    rintro e w1 ⟨rfl, rfl⟩
    go_wp2
    go_ret
    exact ⟨rfl, by (repeat' (first | (with_reducible exact Below.refl _ _) | (with_reducible assumption) | (with_reducible refine Below.alloc ?_ ?_ _) | (with_reducible refine Below.drew ?_) | (with_reducible refine below_drewN ?_ _) | (with_reducible refine Below.setCell ?_ ?_ _) | (with_reducible refine Below.trans ?_ (Below.mono (by assumption) ?_)) | (first | omega | (simp only [World.size_alloc, World.size_setCell, World.size_drew]; omega) | (simp; omega) | (simp; done))))⟩
  · have h2 : (1048576 - (m : Int) < 0) := by omega
    have hc := fun W => szEdgeS_any A m c 1048576 W rfl hm
    rw [if_neg h] at hc ⊢
    go_enter Try.func9, Try.ntmps9
    go_wp2_with fail
    refine (hc _).mono ?_
    rintro e w1 ⟨rfl, rfl⟩
    go_wp2
    go_ret
    exact ⟨rfl, by (repeat' (first | (with_reducible exact Below.refl _ _) | (with_reducible assumption) | (with_reducible refine Below.alloc ?_ ?_ _) | (with_reducible refine Below.drew ?_) | (with_reducible refine below_drewN ?_ _) | (with_reducible refine Below.setCell ?_ ?_ _) | (with_reducible refine Below.trans ?_ (Below.mono (by assumption) ?_)) | (first | omega | (simp only [World.size_alloc, World.size_setCell, World.size_drew]; omega) | (simp; omega) | (simp; done))))⟩

end Go.Proofs.Ytigdfcigoejjjaa
namespace Go.Proofs.Ytigdfcigoejjjaa
open Go.RowKit
set_option linter.unusedSimpArgs false
set_option linter.unusedVariables false

set_option maxHeartbeats 400000 in
theorem eqEdge_any (a b c d : Int) (w : World) :
    Calls Try.prog 72 #[.agg #[.int .i64 a, .int .i64 b], .agg #[.int .i64 c, .int .i64 d]] w fun e w' => e = .returned (.bool (decide (a = c) && decide (b = d))) ∧ Below w.heap.size w w' := by
  by_cases h1 : a = c
  · subst h1
    by_cases h2 : b = d
    · subst h2
      go_enter Try.func72, Try.ntmps72
      go_wp2
      refine wp_loop_rounds 3 ?_
      rw [rounds_succ]; go_wp2
      go_quiet (fail)
      go_wp2
      rw [rounds_succ]; go_wp2
      go_quiet (fail)
      go_wp2
      rw [rounds_succ]; go_wp2
      go_ret
      exact ⟨by simp, by (repeat' (first | (with_reducible exact Below.refl _ _) | (with_reducible assumption) | (with_reducible refine Below.alloc ?_ ?_ _) | (with_reducible refine Below.drew ?_) | (with_reducible refine below_drewN ?_ _) | (with_reducible refine Below.setCell ?_ ?_ _) | (with_reducible refine Below.trans ?_ (Below.mono (by assumption) ?_)) | (first | omega | (simp only [World.size_alloc, World.size_setCell, World.size_drew]; omega) | (simp; omega) | (simp; done))))⟩
    · have h2' : (b == d) = false := by simpa using h2
      have h3' : (b != d) = true := by simpa using h2
      go_enter Try.func72, Try.ntmps72
      go_wp2
      refine wp_loop_rounds 3 ?_
      rw [rounds_succ]; go_wp2
      go_quiet (fail)
      go_wp2
      rw [rounds_succ]; go_wp2
      go_quiet (fail)
      go_wp2
      go_ret
      exact ⟨by simp [h2], by (repeat' (first | (with_reducible exact Below.refl _ _) | (with_reducible assumption) | (with_reducible refine Below.alloc ?_ ?_ _) | (with_reducible refine Below.drew ?_) | (with_reducible refine below_drewN ?_ _) | (with_reducible refine Below.setCell ?_ ?_ _) | (with_reducible refine Below.trans ?_ (Below.mono (by assumption) ?_)) | (first | omega | (simp only [World.size_alloc, World.size_setCell, World.size_drew]; omega) | (simp; omega) | (simp; done))))⟩
  · have h2' : (a == c) = false := by simpa using h1
    have h3' : (a != c) = true := by simpa using h1
    go_enter Try.func72, Try.ntmps72
    go_wp2
    refine wp_loop_rounds 3 ?_
    rw [rounds_succ]; go_wp2
    go_quiet (fail)
    go_wp2
    go_ret
    exact ⟨by simp [h1], by (repeat' (first | (with_reducible exact Below.refl _ _) | (with_reducible assumption) | (with_reducible refine Below.alloc ?_ ?_ _) | (with_reducible refine Below.drew ?_) | (with_reducible refine below_drewN ?_ _) | (with_reducible refine Below.setCell ?_ ?_ _) | (with_reducible refine Below.trans ?_ (Below.mono (by assumption) ?_)) | (first | omega | (simp only [World.size_alloc, World.size_setCell, World.size_drew]; omega) | (simp; omega) | (simp; done))))⟩
end Go.Proofs.Ytigdfcigoejjjaa
namespace Go.Proofs.Ytigdfcigoejjjaa
open Go.RowKit
set_option linter.unusedSimpArgs false
set_option linter.unusedVariables false

theorem eqEdge_b (a b c d : Int) (w : World) (q : Bool) (hq : Hid ((decide (a = c) && decide (b = d)) = q)) :
    Calls Try.prog 72 #[.agg #[.int .i64 a, .int .i64 b], .agg #[.int .i64 c, .int .i64 d]] w fun e w' => e = .returned (.bool q) ∧ Below w.heap.size w w' :=
  hq.out ▸ eqEdge_any a b c d w

set_option maxHeartbeats 400000 in
theorem eqEdgeS_any (A A' : Option Addr) (c c' : Nat) (es es' : List (Int × Int)) (w : World) (hl : es.length ≤ 1048576) (hr : RdE w A es) (hr' : RdE w A' es') (hll : es.length = es'.length) :
    Calls Try.prog 39 #[.slice A es.length c, .slice A' es.length c'] w fun e w' => e = .returned (.bool (decide (es = es'))) ∧ Below w.heap.size w w' := by
  generalize hn : es.length = n at *
  have Hn := Lib.hid hn; have Hn' := Lib.hid hll; clear hn hll
  go_enter Try.func39, Try.ntmps39
  go_wp2
  go_loopw [5] (fun i wr => ∃ k : Nat, k ≤ n ∧ i = .int .i64 k ∧ Hid (es.take k = es'.take k) ∧ Below w.heap.size w wr) (fun i _ => n - (intOf i).toNat)
  case atStart => exact ⟨0, Nat.zero_le _, rfl, rfl, by (repeat' (first | (with_reducible exact Below.refl _ _) | (with_reducible assumption) | (with_reducible refine Below.alloc ?_ ?_ _) | (with_reducible refine Below.drew ?_) | (with_reducible refine below_drewN ?_ _) | (with_reducible refine Below.setCell ?_ ?_ _) | (with_reducible refine Below.trans ?_ (Below.mono (by assumption) ?_)) | (first | omega | (simp only [World.size_alloc, World.size_setCell, World.size_drew]; omega) | (simp; omega) | (simp; done))))⟩
  case round =>
    obtain ⟨k, hk, rfl, hE, hbel⟩ := hrel
    have hsz := hbel.size
    by_cases hlt : k < n
    · obtain ⟨b, off, rfl, hb, hc⟩ := (hr.below hbel).pos (by have := Hn.out; omega)
      obtain ⟨b', off', rfl, hb', hc'⟩ := (hr'.below hbel).pos (by have := Hn'.out; omega)
      have hc0 := (hc k (by have := Hn.out; omega)).1
      have hc1 := (hc k (by have := Hn.out; omega)).2
      have hd0 := (hc' k (by have := Hn'.out; omega)).1
      have hd1 := (hc' k (by have := Hn'.out; omega)).2
      clear hc hc' hr hr'
      generalize hx : es.getD k (0, 0) = x at *
      generalize hy : es'.getD k (0, 0) = y at *
      have Hx := Lib.hid hx; have Hy := Lib.hid hy; clear hx hy
      obtain ⟨q, Hq⟩ : ∃ q, Hid ((decide (x.1 = y.1) && decide (x.2 = y.2)) = q) := ⟨_, rfl⟩
      go_wp2
      go_region_held3 (fun w' => w'.cell? ⟨b, off + k * 2, none⟩ = some (.int .i64 x.1) ∧ w'.cell? ⟨b, off + k * 2 + 1, none⟩ = some (.int .i64 x.2) ∧ w'.cell? ⟨b', off' + k * 2, none⟩ = some (.int .i64 y.1) ∧ w'.cell? ⟨b', off' + k * 2 + 1, none⟩ = some (.int .i64 y.2))
        (first | go_keep | (obtain ⟨hq, _⟩ := bcell ‹Below _ _ _›; (repeat' apply And.intro) <;> (rw [hq _ _ (by first | assumption | omega | (simp; done) | (simp; omega) | (simp; assumption))] <;> (first | assumption | (simp [*]; done))))) (first | (go_at_call 72; refine (eqEdge_b _ _ _ _ _ q Hq).mono ?_; rintro e w2 ⟨rfl, hb2⟩))
      cases q
      · go_wp2
        go_ret
        refine ⟨?_, by (repeat' (first | (with_reducible exact Below.refl _ _) | (with_reducible assumption) | (with_reducible refine Below.alloc ?_ ?_ _) | (with_reducible refine Below.drew ?_) | (with_reducible refine below_drewN ?_ _) | (with_reducible refine Below.setCell ?_ ?_ _) | (with_reducible refine Below.trans ?_ (Below.mono (by assumption) ?_)) | (first | omega | (simp only [World.size_alloc, World.size_setCell, World.size_drew]; omega) | (simp; omega) | (simp; done))))⟩
        have h1 := Hq.out
        have h2 := Hx.out
        have h3 := Hy.out
        have hne : es ≠ es' := by
          intro e
          subst e
          rw [h2] at h3
          subst h3
          simp at h1
        simp [hne]
      · go_wp2
        refine ⟨⟨k + 1, by omega, by go_num, ?_, by (repeat' (first | (with_reducible exact Below.refl _ _) | (with_reducible assumption) | (with_reducible refine Below.alloc ?_ ?_ _) | (with_reducible refine Below.drew ?_) | (with_reducible refine below_drewN ?_ _) | (with_reducible refine Below.setCell ?_ ?_ _) | (with_reducible refine Below.trans ?_ (Below.mono (by assumption) ?_)) | (first | omega | (simp only [World.size_alloc, World.size_setCell, World.size_drew]; omega) | (simp; omega) | (simp; done))))⟩, by simp [intOf]; omega⟩
        · show es.take (k + 1) = es'.take (k + 1)
          have h1 := Hq.out
          have h2 := Hx.out
          have h3 := Hy.out
          have hxy : x = y := by
            simp only [Bool.and_eq_true, decide_eq_true_eq] at h1
            exact Prod.ext h1.1 h1.2
          have hn := Hn.out
          have hn' := Hn'.out
          have hlt : k < es.length := by omega
          have hlt' : k < es'.length := by omega
          rw [List.take_succ_eq_append_getElem hlt, List.take_succ_eq_append_getElem hlt', hE.out]
          simp only [List.getD_eq_getElem?_getD, List.getElem?_eq_getElem hlt, List.getElem?_eq_getElem hlt', Option.getD_some] at h2 h3
          rw [h2, h3, hxy]
    · obtain rfl : k = n := by omega
      go_wp2
      go_ret
      have hee : es = es' := by
        have := hE.out
        rw [List.take_of_length_le (by have := Hn.out; omega), List.take_of_length_le (by have := Hn'.out; omega)] at this
        exact this
      exact ⟨by simp [hee], hbel⟩
/-- Of lists of different lengths. -/
theorem eqEdgeS_len (A A' : Option Addr) (c c' : Nat) (n n' : Nat) (w : World) (hn : n ≠ n') (hm : n ≤ 1048576) (hm' : n' ≤ 1048576) :
    Calls Try.prog 39 #[.slice A n c, .slice A' n' c'] w fun e w' => e = .returned (.bool false) ∧ w = w' := by
  have h1 : ((n : Int) != (n' : Int)) = true := by simp; omega
  go_enter Try.func39, Try.ntmps39
  go_wp2
  go_ret
  exact ⟨rfl, rfl⟩

/-- The Go value of a graph. -/
def gV (n : Int) (A : Option Addr) (m c : Nat) : Value := .agg #[.int .i64 n, .slice A m c]

set_option maxHeartbeats 400000 in
theorem eqGraph_any (n n' : Int) (A A' : Option Addr) (c c' : Nat) (es es' : List (Int × Int)) (w : World) (hl : es.length ≤ 1048576) (hl' : es'.length ≤ 1048576) (hr : RdE w A es) (hr' : RdE w A' es') :
    Calls Try.prog 15 #[.agg #[.int .i64 n, .slice A es.length c], .agg #[.int .i64 n', .slice A' es'.length c']] w fun e w' => e = .returned (.bool (decide (n = n') && decide (es = es'))) ∧ Below w.heap.size w w' := by
  by_cases hn : n = n'
  · subst hn
    have hc : ∀ W, Below w.heap.size w W → Calls Try.prog 39 #[.slice A es.length c, .slice A' es'.length c'] W fun e w' => e = .returned (.bool (decide (es = es'))) ∧ Below W.heap.size W w' := by
      intro W hW
      by_cases hll : es.length = es'.length
      · rw [← hll]; exact eqEdgeS_any A A' c c' es es' W hl (hr.below hW) (hr'.below hW) hll
      · refine (eqEdgeS_len A A' c c' es.length es'.length W hll hl hl').mono ?_
        rintro e w' ⟨rfl, rfl⟩
        have hne : es ≠ es' := fun e => hll (by rw [e])
        exact ⟨by simp [hne], Below.refl _ _⟩
    generalize hq : decide (es = es') = q at hc ⊢
    have Hq := Lib.hid hq; clear hq
    cases q <;> go_enter Try.func15, Try.ntmps15
    all_goals
      go_wp2_with fail
      refine (hc _ (by (repeat' (first | (with_reducible exact Below.refl _ _) | (with_reducible assumption) | (with_reducible refine Below.alloc ?_ ?_ _) | (with_reducible refine Below.drew ?_) | (with_reducible refine below_drewN ?_ _) | (with_reducible refine Below.setCell ?_ ?_ _) | (with_reducible refine Below.trans ?_ (Below.mono (by assumption) ?_)) | (first | omega | (simp only [World.size_alloc, World.size_setCell, World.size_drew]; omega) | (simp; omega) | (simp; done)))))).mono ?_
      rintro e w1 ⟨rfl, hb⟩
      go_wp2
      go_ret
      exact ⟨by simp, by (repeat' (first | (with_reducible exact Below.refl _ _) | (with_reducible assumption) | (with_reducible refine Below.alloc ?_ ?_ _) | (with_reducible refine Below.drew ?_) | (with_reducible refine below_drewN ?_ _) | (with_reducible refine Below.setCell ?_ ?_ _) | (with_reducible refine Below.trans ?_ (Below.mono (by assumption) ?_)) | (first | omega | (simp only [World.size_alloc, World.size_setCell, World.size_drew]; omega) | (simp; omega) | (simp; done))))⟩
  · have h1 : (n == n') = false := by simpa using hn
    have h2 : (n != n') = true := by simpa using hn
    go_enter Try.func15, Try.ntmps15
    go_wp2
    go_ret
    exact ⟨by simp [hn], by (repeat' (first | (with_reducible exact Below.refl _ _) | (with_reducible assumption) | (with_reducible refine Below.alloc ?_ ?_ _) | (with_reducible refine Below.drew ?_) | (with_reducible refine below_drewN ?_ _) | (with_reducible refine Below.setCell ?_ ?_ _) | (with_reducible refine Below.trans ?_ (Below.mono (by assumption) ?_)) | (first | omega | (simp only [World.size_alloc, World.size_setCell, World.size_drew]; omega) | (simp; omega) | (simp; done))))⟩
end Go.Proofs.Ytigdfcigoejjjaa
