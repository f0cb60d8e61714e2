/- areAll at ints; isCubic. -/
import Derived.Test.YtblidpodbpoaeaaIs4
namespace Go.Proofs.Ytblidpodbpoaeaa
open Go.RowKit
set_option linter.unusedSimpArgs false
set_option linter.unusedVariables false

set_option maxHeartbeats 400000 in
theorem areAllJ1_b (B : Nat) (g : Nat) (lb : Array Value) (p : Int → Bool) (w : World) (eg0 : Ent g) (hp : PredI g lb p w) (hB : B < w.heap.size) (hc : w.cell? ⟨B, 0, none⟩ = some (.func (.func g) #[] lb)) :
    PredI 146 #[.pointer (some ⟨B, 0, none⟩)] (fun x => !p x) w := by
  intro W a hW
  have hc' := (hW.cell (p := ⟨B, 0, none⟩) hB).trans hc
  have hB' : B < W.heap.size := by have := hW.size; omega
  have eg := eg0
  unfold Ent at eg
  obtain ⟨q, Hq⟩ : ∃ q, Hid (p a = q) := ⟨_, rfl⟩
  dsimp only
  rw [Hq.out]
  have hp' := hp.below hW
  clear hp hW hc eg0
  show Calls Try.prog 146 #[.int .i64 a, .pointer (some ⟨B, 0, none⟩)] W _
  have hcall := fun W' h => hp' W' a h
  simp only [Hq.out] at hcall
  clear hp'
  go_enter Try.func146, Try.ntmps146
  go_wp2_with fail
  refine (hcall _ (by (repeat' (first | (with_reducible exact Below.refl _ _) | (with_reducible assumption) | (with_reducible refine Below.alloc ?_ ?_ _) | (with_reducible refine Below.drew ?_) | (with_reducible refine below_drewN ?_ _) | (with_reducible refine Below.setCell ?_ ?_ _) | (with_reducible refine Below.trans ?_ (Below.mono (by assumption) ?_)) | (first | omega | (simp only [World.size_alloc, World.size_setCell, World.size_drew]; omega) | (simp; omega) | (simp; done)))))).mono ?_
  rintro e w2 ⟨rfl, hb2⟩
  go_wp2_with fail
  go_ret
  exact ⟨by simp, by (repeat' (first | (with_reducible exact Below.refl _ _) | (with_reducible assumption) | (with_reducible refine Below.alloc ?_ ?_ _) | (with_reducible refine Below.drew ?_) | (with_reducible refine below_drewN ?_ _) | (with_reducible refine Below.setCell ?_ ?_ _) | (with_reducible refine Below.trans ?_ (Below.mono (by assumption) ?_)) | (first | omega | (simp only [World.size_alloc, World.size_setCell, World.size_drew]; omega) | (simp; omega) | (simp; done))))⟩
theorem ent_areAllJ1 : Ent 146 := enters_of Try.func146 (by kernel_rfl) rfl
set_option maxHeartbeats 400000 in
theorem areAllJ_b (A : Option Addr) (c : Nat) (es : List Int) (g : Nat) (lb : Array Value) (p : Int → Bool) (w : World) (q : Bool) (hq : Hid (es.all p = q)) (hl : es.length ≤ 1048576) (hr : RdI w A es) (eg0 : Ent g) (hp : PredI g lb p w) :
    Calls Try.prog 132 #[.slice A es.length c, .func (.func g) #[] lb] w fun e w' => e = .returned (.bool q) ∧ Below w.heap.size w w' := by
  have hmf : ∀ (fn : Fn) (first cap : Array Value) (w : World), (Instr.makeFunc fn first cap).run Try.prog w = .ok (.func fn first cap) w := fun _ _ _ _ => rfl
  have hq' : Hid (es.any (fun x => !p x) = !q) := by show _ = _; rw [← hq.out, all_any]; simp
  have hb : Below w.heap.size w (w.alloc (.cells #[.func (.func g) #[] lb] 132)) := by (repeat' (first | (with_reducible exact Below.refl _ _) | (with_reducible assumption) | (with_reducible refine Below.alloc ?_ ?_ _) | (with_reducible refine Below.drew ?_) | (with_reducible refine below_drewN ?_ _) | (with_reducible refine Below.setCell ?_ ?_ _) | (with_reducible refine Below.trans ?_ (Below.mono (by assumption) ?_)) | (first | omega | (simp only [World.size_alloc, World.size_setCell, World.size_drew]; omega) | (simp; omega) | (simp; done))))
  have hcall := containsJ_any A c es 146 #[.pointer (some ⟨w.heap.size, 0, none⟩)] (fun x => !p x) (w.alloc (.cells #[.func (.func g) #[] lb] 132)) (!q) hq' hl (hr.below hb) ent_areAllJ1
    (areAllJ1_b w.heap.size g lb p _ eg0 (hp.below hb) (by simp) (by simp))
  clear hq' hr hp eg0 hq
  go_enter Try.func132, Try.ntmps132
  go_wp2_with fail
  refine hcall.mono ?_
  rintro e w2 ⟨rfl, hb2⟩
  go_wp2
  go_ret
  exact ⟨by simp, by (repeat' (first | (with_reducible exact Below.refl _ _) | (with_reducible assumption) | (with_reducible refine Below.alloc ?_ ?_ _) | (with_reducible refine Below.drew ?_) | (with_reducible refine below_drewN ?_ _) | (with_reducible refine Below.setCell ?_ ?_ _) | (with_reducible refine Below.trans ?_ (Below.mono (by assumption) ?_)) | (first | omega | (simp only [World.size_alloc, World.size_setCell, World.size_drew]; omega) | (simp; omega) | (simp; done))))⟩
set_option maxHeartbeats 400000 in
theorem areAllI1_b (B : Nat) (g : Nat) (lb : Array Value) (p : Int → Bool) (w : World) (eg0 : Ent g) (hp : PredI g lb p w) (hB : B < w.heap.size) (hc : w.cell? ⟨B, 0, none⟩ = some (.func (.func g) #[] lb)) :
    PredI 108 #[.pointer (some ⟨B, 0, none⟩)] (fun x => !p x) w := by
  intro W a hW
  have hc' := (hW.cell (p := ⟨B, 0, none⟩) hB).trans hc
  have hB' : B < W.heap.size := by have := hW.size; omega
  have eg := eg0
  unfold Ent at eg
  obtain ⟨q, Hq⟩ : ∃ q, Hid (p a = q) := ⟨_, rfl⟩
  dsimp only
  rw [Hq.out]
  have hp' := hp.below hW
  clear hp hW hc eg0
  show Calls Try.prog 108 #[.int .i64 a, .pointer (some ⟨B, 0, none⟩)] W _
  have hcall := fun W' h => hp' W' a h
  simp only [Hq.out] at hcall
  clear hp'
  go_enter Try.func108, Try.ntmps108
  go_wp2_with fail
  refine (hcall _ (by (repeat' (first | (with_reducible exact Below.refl _ _) | (with_reducible assumption) | (with_reducible refine Below.alloc ?_ ?_ _) | (with_reducible refine Below.drew ?_) | (with_reducible refine below_drewN ?_ _) | (with_reducible refine Below.setCell ?_ ?_ _) | (with_reducible refine Below.trans ?_ (Below.mono (by assumption) ?_)) | (first | omega | (simp only [World.size_alloc, World.size_setCell, World.size_drew]; omega) | (simp; omega) | (simp; done)))))).mono ?_
  rintro e w2 ⟨rfl, hb2⟩
  go_wp2_with fail
  go_ret
  exact ⟨by simp, by (repeat' (first | (with_reducible exact Below.refl _ _) | (with_reducible assumption) | (with_reducible refine Below.alloc ?_ ?_ _) | (with_reducible refine Below.drew ?_) | (with_reducible refine below_drewN ?_ _) | (with_reducible refine Below.setCell ?_ ?_ _) | (with_reducible refine Below.trans ?_ (Below.mono (by assumption) ?_)) | (first | omega | (simp only [World.size_alloc, World.size_setCell, World.size_drew]; omega) | (simp; omega) | (simp; done))))⟩
theorem ent_areAllI1 : Ent 108 := enters_of Try.func108 (by kernel_rfl) rfl
set_option maxHeartbeats 400000 in
theorem areAllI_b (A : Option Addr) (c : Nat) (es : List Int) (g : Nat) (lb : Array Value) (p : Int → Bool) (w : World) (q : Bool) (hq : Hid (es.all p = q)) (hl : es.length ≤ 1048576) (hr : RdI w A es) (eg0 : Ent g) (hp : PredI g lb p w) :
    Calls Try.prog 93 #[.slice A es.length c, .func (.func g) #[] lb] w fun e w' => e = .returned (.bool q) ∧ Below w.heap.size w w' := by
  have hmf : ∀ (fn : Fn) (first cap : Array Value) (w : World), (Instr.makeFunc fn first cap).run Try.prog w = .ok (.func fn first cap) w := fun _ _ _ _ => rfl
  have hq' : Hid (es.any (fun x => !p x) = !q) := by show _ = _; rw [← hq.out, all_any]; simp
  have hb : Below w.heap.size w (w.alloc (.cells #[.func (.func g) #[] lb] 29)) := by (repeat' (first | (with_reducible exact Below.refl _ _) | (with_reducible assumption) | (with_reducible refine Below.alloc ?_ ?_ _) | (with_reducible refine Below.drew ?_) | (with_reducible refine below_drewN ?_ _) | (with_reducible refine Below.setCell ?_ ?_ _) | (with_reducible refine Below.trans ?_ (Below.mono (by assumption) ?_)) | (first | omega | (simp only [World.size_alloc, World.size_setCell, World.size_drew]; omega) | (simp; omega) | (simp; done))))
  have hcall := containsI_any A c es 108 #[.pointer (some ⟨w.heap.size, 0, none⟩)] (fun x => !p x) (w.alloc (.cells #[.func (.func g) #[] lb] 29)) (!q) hq' hl (hr.below hb) ent_areAllI1
    (areAllI1_b w.heap.size g lb p _ eg0 (hp.below hb) (by simp) (by simp))
  clear hq' hr hp eg0 hq
  go_enter Try.func93, Try.ntmps93
  go_wp2_with fail
  refine hcall.mono ?_
  rintro e w2 ⟨rfl, hb2⟩
  go_wp2
  go_ret
  exact ⟨by simp, by (repeat' (first | (with_reducible exact Below.refl _ _) | (with_reducible assumption) | (with_reducible refine Below.alloc ?_ ?_ _) | (with_reducible refine Below.drew ?_) | (with_reducible refine below_drewN ?_ _) | (with_reducible refine Below.setCell ?_ ?_ _) | (with_reducible refine Below.trans ?_ (Below.mono (by assumption) ?_)) | (first | omega | (simp only [World.size_alloc, World.size_setCell, World.size_drew]; omega) | (simp; omega) | (simp; done))))⟩

/-- The list with 1 added at place i. -/
def incAt (c : List Int) (i : Nat) : List Int := c.set i (c.getD i 0 + 1)
theorem incAt_len (c : List Int) (i : Nat) : (incAt c i).length = c.length := by simp [incAt]
/-- How many of the edges are at each of n vertices. -/
def degs (n : Nat) (es : List (Int × Int)) : List Int := es.foldl (fun c e => incAt (incAt c e.1.toNat) e.2.toNat) (List.replicate n 0)
theorem degs_snoc (n : Nat) (es : List (Int × Int)) (e : Int × Int) : degs n (es ++ [e]) = incAt (incAt (degs n es) e.1.toNat) e.2.toNat := by simp [degs]
theorem degs_len (n : Nat) (es : List (Int × Int)) : (degs n es).length = n := by
  unfold degs
  suffices h : ∀ c : List Int, (es.foldl (fun c e => incAt (incAt c e.1.toNat) e.2.toNat) c).length = c.length by rw [h]; simp
  induction es with
  | nil => intro c; rfl
  | cons e es ih => intro c; rw [List.foldl_cons, ih, incAt_len, incAt_len]
theorem incAt_getD (c : List Int) (i j : Nat) : (incAt c i).getD j 0 = if i = j ∧ i < c.length then c.getD i 0 + 1 else c.getD j 0 := by
  unfold incAt
  simp only [List.getD_eq_getElem?_getD, List.getElem?_set]
  by_cases h : i = j
  · subst h
    by_cases h2 : i < c.length <;> simp [h2]
  · simp [h]
theorem incAt_bd (c : List Int) (i : Nat) (m : Int) (h : ∀ j, 0 ≤ c.getD j 0 ∧ c.getD j 0 ≤ m) : ∀ j, 0 ≤ (incAt c i).getD j 0 ∧ (incAt c i).getD j 0 ≤ m + 1 := by
  intro j
  rw [incAt_getD]
  have h1 := h i; have h2 := h j
  split <;> omega
theorem degs_bd (n : Nat) (es : List (Int × Int)) : ∀ j, 0 ≤ (degs n es).getD j 0 ∧ (degs n es).getD j 0 ≤ 2 * es.length := by
  suffices h : ∀ (c : List Int) (m : Int), (∀ j, 0 ≤ c.getD j 0 ∧ c.getD j 0 ≤ m) → ∀ j, 0 ≤ (es.foldl (fun c e => incAt (incAt c e.1.toNat) e.2.toNat) c).getD j 0 ∧ (es.foldl (fun c e => incAt (incAt c e.1.toNat) e.2.toNat) c).getD j 0 ≤ m + 2 * es.length by
    intro j
    have := h (List.replicate n 0) 0 (by
      intro j
      simp only [List.getD_eq_getElem?_getD, List.getElem?_replicate]
      split <;> simp) j
    simpa [degs] using this
  induction es with
  | nil => intro c m h j; simpa using h j
  | cons e es ih =>
    intro c m h j
    have := ih _ _ (incAt_bd _ e.2.toNat _ (incAt_bd c e.1.toNat m h)) j
    simp only [List.foldl_cons, List.length_cons]
    constructor
    · exact this.1
    · have := this.2; omega

theorem blkI_set {w : World} {g t : Nat} {xs xs' : List Int} {j : Nat} {v : Int} (h : Blk w g t (cI xs).toArray) (he : xs.set j v = xs') : Blk (w.setCell ⟨g, j, none⟩ (.int .i64 v)) g t (cI xs').toArray := by
  have := h.set_ j (.int .i64 v)
  refine this.eq_ ?_
  rw [← he, cI_set]; simp
theorem blkI_cell {w : World} {g t : Nat} {xs : List Int} {j : Nat} (h : Blk w g t (cI xs).toArray) (hj : j < xs.length) : w.cell? ⟨g, j, none⟩ = some (.int .i64 (xs.getD j 0)) :=
  h.cellAt _ _ (by simpa using getD_cI xs j hj)
theorem blkI_rd {w : World} {g t : Nat} {xs : List Int} (h : Blk w g t (cI xs).toArray) : RdI w (some ⟨g, 0, none⟩) xs :=
  .inr ⟨g, 0, rfl, h.lt, fun j hj => by rw [Nat.zero_add]; exact blkI_cell h hj⟩
theorem blkE_rd {w : World} {g t : Nat} {es : List (Int × Int)} (h : Blk w g t (cE es).toArray) : RdE w (some ⟨g, 0, none⟩) es :=
  .inr ⟨g, 0, rfl, h.lt, fun j hj => by rw [Nat.zero_add]; exact blkE_cells h hj⟩

/-- Every edge joins vertices among the first n. -/
def InN (n : Nat) (es : List (Int × Int)) : Prop := ∀ j, j < es.length → ∃ a b : Nat, es.getD j (0, 0) = ((a : Int), (b : Int)) ∧ a < n ∧ b < n

theorem ent_isCubic1 : Ent 133 := enters_of Try.func133 (by kernel_rfl) rfl
theorem infoJ : (Try.prog.info? 3).map (fun i => (i.zero, i.size, i.bytes)) = some (some (.int .i64 0), 1, 8) := by kernel_rfl
theorem take_snocE (es : List (Int × Int)) (k : Nat) (h : k < es.length) : es.take (k + 1) = es.take k ++ [es.getD k (0, 0)] := by
  rw [List.take_succ_eq_append_getElem h]; simp [List.getD_eq_getElem?_getD, List.getElem?_eq_getElem h]

set_option maxHeartbeats 1000000 in
theorem isCubic_b (n : Nat) (A : Option Addr) (c : Nat) (es : List (Int × Int)) (w : World) (q : Bool) (hq : Hid ((degs n es).all (fun k => decide (k = 3)) = q)) (hn : n ≤ 1000) (hl : es.length ≤ 1048576) (hr : RdE w A es) (hin : InN n es) :
    Calls Try.prog 105 #[.int .i64 n, .slice A es.length c] w fun e w' => e = .returned (.bool q) ∧ Below w.heap.size w w' := by
  have hmk := mk_row Try.underlying130 infoJ n (by omega) (by omega)
  simp only [made_int] at hmk
  generalize hm : es.length = m at *
  have Hm := Lib.hid hm; clear hm
  have Hin := Lib.hid hin; clear hin
  go_enter Try.func105, Try.ntmps105
  go_wp2
  go_loopw [12] (fun i wr => ∃ k : Nat, k ≤ m ∧ i = .int .i64 k ∧ Blk wr w.heap.size 3 (cI (degs n (es.take k))).toArray ∧ Below w.heap.size w wr) (fun i _ => m - (intOf i).toNat)
  case atStart => exact ⟨0, Nat.zero_le _, rfl, (by simp only [List.take_zero]; exact Blk.new _ _ _), by (repeat' (first | (with_reducible exact Below.refl _ _) | (with_reducible assumption) | (with_reducible refine Below.alloc ?_ ?_ _) | (with_reducible refine Below.drew ?_) | (with_reducible refine below_drewN ?_ _) | (with_reducible refine Below.setCell ?_ ?_ _) | (with_reducible refine Below.trans ?_ (Below.mono (by assumption) ?_)) | (first | omega | (simp only [World.size_alloc, World.size_setCell, World.size_drew]; omega) | (simp; omega) | (simp; done))))⟩
  case round =>
    obtain ⟨k, hk, rfl, hB, hbel⟩ := hrel
    have hsz := hB.lt
    by_cases hlt : k < m
    · obtain ⟨b, off, rfl, hb, hc⟩ := (hr.below hbel).pos (by have := Hm.out; omega)
      have hc0 := (hc k (by have := Hm.out; omega)).1
      have hc1 := (hc k (by have := Hm.out; omega)).2
      clear hc hr
      obtain ⟨x, y, hxy, hx, hy⟩ := Hin.out k (by have := Hm.out; omega)
      have Hxy := Lib.hid hxy
      rw [hxy] at hc0 hc1
      dsimp only at hc0 hc1
      clear hxy
      have hbd := degs_bd n (es.take k)
      have hlen := degs_len n (es.take k)
      have hbx := hbd x
      have hby := incAt_bd _ x _ hbd y
      have htl : ((es.take k).length : Int) ≤ 1048576 := by have := List.length_take_le k es; omega
      have hB2 := blkI_set (xs' := incAt (degs n (es.take k)) x) (j := x) hB rfl
      have d1 := blkI_cell hB (j := x) (by omega)
      have d2 := blkI_cell hB2 (j := y) (by rw [incAt_len]; omega)
      have f1 := hB.frozen x
      have f2 := hB2.frozen y
      have HB3 := Lib.hid (blkI_set (xs' := incAt (incAt (degs n (es.take k)) x) y) (j := y) hB2 rfl)
      generalize hu : (degs n (es.take k)).getD x 0 = u at *
      have Hu := Lib.hid hu
      generalize hv : (incAt (degs n (es.take k)) x).getD y 0 = v at *
      have Hv := Lib.hid hv
      clear hbd hlen hB2 hu hv hB
      go_wp2
      refine ⟨⟨k + 1, by omega, by go_num, ?_, by (repeat' (first | (with_reducible exact Below.refl _ _) | (with_reducible assumption) | (with_reducible refine Below.alloc ?_ ?_ _) | (with_reducible refine Below.drew ?_) | (with_reducible refine below_drewN ?_ _) | (with_reducible refine Below.setCell ?_ ?_ _) | (with_reducible refine Below.trans ?_ (Below.mono (by assumption) ?_)) | (first | omega | (simp only [World.size_alloc, World.size_setCell, World.size_drew]; omega) | (simp; omega) | (simp; done))))⟩, by simp [intOf]; omega⟩
      have h3 := HB3.out
      refine Blk.eq_ (h3.alloc _) ?_
      rw [take_snocE es k (by have := Hm.out; omega), Hxy.out, degs_snoc]
      rfl
    · obtain rfl : k = m := by omega
      have hdeg : degs n (es.take k) = degs n es := by rw [List.take_of_length_le (by have := Hm.out; omega)]
      rw [hdeg] at hB
      clear hdeg
      have hcall := areAllJ_b (some ⟨w.heap.size, 0, none⟩) n (degs n es) 133 #[] (fun k => decide (k = 3)) wr q hq (by rw [degs_len]; omega) (blkI_rd hB) ent_isCubic1 (fun W a _ => (isCubic1_b a W).mono fun e w' ⟨h1, h2⟩ => ⟨h1, by subst h2; exact Below.refl _ _⟩)
      rw [degs_len] at hcall
      clear hB
      go_wp2_with fail
      refine hcall.mono ?_
      rintro e w2 ⟨rfl, hb2⟩
      go_wp2
      go_ret
      exact ⟨rfl, by (repeat' (first | (with_reducible exact Below.refl _ _) | (with_reducible assumption) | (with_reducible refine Below.alloc ?_ ?_ _) | (with_reducible refine Below.drew ?_) | (with_reducible refine below_drewN ?_ _) | (with_reducible refine Below.setCell ?_ ?_ _) | (with_reducible refine Below.trans ?_ (Below.mono (by assumption) ?_)) | (first | omega | (simp only [World.size_alloc, World.size_setCell, World.size_drew]; omega) | (simp; omega) | (simp; done))))⟩
end Go.Proofs.Ytblidpodbpoaeaa
