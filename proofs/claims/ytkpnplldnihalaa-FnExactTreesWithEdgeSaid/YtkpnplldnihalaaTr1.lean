/- The number of the spanning trees: what it is, and the program's trees. -/
import Derived.Test.YtkpnplldnihalaaDt3
import Derived.Test.YtkpnplldnihalaaZm
namespace Go.Proofs.Ytkpnplldnihalaa
open Go.RowKit
set_option linter.unusedSimpArgs false
set_option linter.unusedVariables false
set_option maxRecDepth 20000

/-- What an edge adds to row a, column b. -/
def cLap (e : Int × Int) (a b : Nat) : Int :=
  (if a = e.1.toNat ∧ b = e.1.toNat then 1 else 0) + (if a = e.2.toNat ∧ b = e.2.toNat then 1 else 0) + (if a = e.1.toNat ∧ b = e.2.toNat then -1 else 0) + (if a = e.2.toNat ∧ b = e.1.toNat then -1 else 0)
/-- The matrix of the edges below k. -/
def lapTo (es : List (Int × Int)) : Nat → Nat → Nat → Int
  | 0 => fun _ _ => 0
  | k + 1 => fun a b => lapTo es k a b + cLap (es.getD k (0, 0)) a b
theorem cLap_bd (e : Int × Int) (a b : Nat) : -2 ≤ cLap e a b ∧ cLap e a b ≤ 2 := by
  unfold cLap
  (repeat' split) <;> omega
theorem lapTo_bd (es : List (Int × Int)) : ∀ (k a b : Nat), -(2 * (k : Int)) ≤ lapTo es k a b ∧ lapTo es k a b ≤ 2 * k
  | 0, _, _ => by simp [lapTo]
  | k + 1, a, b => by
    have h1 := lapTo_bd es k a b
    have h2 := cLap_bd (es.getD k (0, 0)) a b
    simp only [lapTo]; omega
/-- The number of the trees. -/
def treesV (n : Nat) (es : List (Int × Int)) : Int := detF 0 (n - 1) (n - 1) 0 (fun i j => lapTo es es.length (i + 1) (j + 1)) 1 1
theorem treesV_impl (n : Nat) (es : List (Int × Int)) : detF 1 (n - 1) (n - 1) 0 (fun i j => lapTo es es.length (i + 1) j) 1 1 = treesV n es :=
  detF_congr (n - 1) 0 _ _ 1 1 (by omega) fun _ _ _ _ _ _ => rfl

/-- One entry more by d. -/
def incM (M : Nat → Nat → Int) (i j : Nat) (d : Int) : Nat → Nat → Int := fun a b => M a b + (if a = i ∧ b = j then d else 0)
theorem putM_inc (M : Nat → Nat → Int) (i j : Nat) (d : Int) : putM M i j (M i j + d) = incM M i j d := by
  funext a b
  unfold putM incM
  by_cases e : a = i ∧ b = j
  · rw [if_pos e, if_pos e, e.1, e.2]
  · rw [if_neg e, if_neg e]; omega
/-- All entries are between -c and c. -/
def BdM (M : Nat → Nat → Int) (c : Int) : Prop := ∀ a b, -c ≤ M a b ∧ M a b ≤ c
theorem BdM.inc {M : Nat → Nat → Int} {c : Int} (h : BdM M c) (i j : Nat) {d : Int} (hd : -1 ≤ d ∧ d ≤ 1) : BdM (incM M i j d) (c + 1) := fun a b => by
  have := h a b
  unfold incM
  split <;> omega
theorem Mat.inc {w : World} {g off n N : Nat} {R : Nat → Nat} {M : Nat → Nat → Int} {c : Int} (h : Mat w g off n N R M) {i j : Nat} (hi : i < n) (hj : j < N) (hc : BdM M c) (hc2 : c ≤ 100000) :
    Mat (w.setCell ⟨R i, j, none⟩ (.int .i64 (wrap64 (M i j + 1)))) g off n N R (incM M i j 1) := by
  have h1 := hc i j
  rw [wrap64_small (by omega) (by omega), ← putM_inc]
  exact h.set hi hj _
theorem Mat.dec {w : World} {g off n N : Nat} {R : Nat → Nat} {M : Nat → Nat → Int} {c : Int} (h : Mat w g off n N R M) {i j : Nat} (hi : i < n) (hj : j < N) (hc : BdM M c) (hc2 : c ≤ 100000) :
    Mat (w.setCell ⟨R i, j, none⟩ (.int .i64 (wrap64 (M i j - 1)))) g off n N R (incM M i j (-1)) := by
  have h1 := hc i j
  rw [wrap64_small (by omega) (by omega), ← putM_inc]
  exact h.set hi hj _
theorem Mat.tail {w : World} {g off n N : Nat} {R : Nat → Nat} {M : Nat → Nat → Int} (h : Mat w g off (n + 1) N R M) : Mat w g (off + 1) n N (fun i => R (i + 1)) (fun i j => M (i + 1) j) where
  glt := h.glt
  rlt i hi := h.rlt _ (by omega)
  head i hi := by rw [Nat.add_assoc, Nat.add_comm 1 i]; exact h.head (i + 1) (by omega)
  gfree := h.gfree
  cell i hi j hj := h.cell (i + 1) (by omega) j hj
  free i hi j := h.free (i + 1) (by omega) j
  apart i j hi hj e := by have := h.apart (i + 1) (j + 1) (by omega) (by omega) e; omega
  away i hi := h.away (i + 1) (by omega)
theorem lapTo_loop {es : List (Int × Int)} {k : Nat} {x : Nat} (h : es.getD k (0, 0) = ((x : Int), (x : Int))) : lapTo es (k + 1) = lapTo es k := by
  funext a b
  simp only [lapTo, h, cLap, Int.toNat_natCast]
  split <;> omega
theorem lapTo_edge {es : List (Int × Int)} {k : Nat} {x y : Nat} (h : es.getD k (0, 0) = ((x : Int), (y : Int))) : incM (incM (incM (incM (lapTo es k) x x 1) y y 1) x y (-1)) y x (-1) = lapTo es (k + 1) := by
  funext a b
  simp only [lapTo, h, cLap, incM, Int.toNat_natCast]
  omega

/-- The heads of the rows made so far. -/
def madeH (n g k : Nat) : List Value := (List.range n).map fun j => if j < k then .slice (some ⟨g + 1 + j, 0, none⟩) n n else .slice none 0 0
theorem madeH_len (n g k : Nat) : (madeH n g k).length = n := by simp [madeH]
theorem madeH_zero (n g : Nat) : madeH n g 0 = List.replicate n (Value.slice none 0 0) := by
  apply List.ext_getElem
  · simp [madeH]
  · intro i h1 h2; simp [madeH]
theorem madeH_set (n g k : Nat) : (madeH n g k).set k (.slice (some ⟨g + 1 + k, 0, none⟩) n n) = madeH n g (k + 1) := by
  apply List.ext_getElem
  · simp [madeH]
  · intro i h1 h2
    rw [List.getElem_set]
    by_cases e : k = i
    · subst e; simp [madeH]
    · simp only [e, if_false, madeH, List.getElem_map, List.getElem_range]
      by_cases e2 : i < k
      · rw [if_pos e2, if_pos (by omega)]
      · rw [if_neg e2, if_neg (by omega)]
theorem madeH_mat {w : World} {n g : Nat} {M : Nat → Nat → Int} (h : Blk w g 36 (madeH n g n).toArray) (hr : ∀ j, j < n → Blk w (g + 1 + j) 2 (cI (List.replicate n 0)).toArray) (hM : ∀ i j, M i j = 0) : Mat w g 0 n n (fun j => g + 1 + j) M where
  glt := h.lt
  rlt i hi := (hr i hi).lt
  head i hi := by rw [Nat.zero_add]; exact h.cellAt i _ (by simp [madeH, hi])
  gfree i := h.frozen i
  cell i hi j hj := (hr i hi).cellAt j _ (by simp [cI, hj, hM])
  free i hi j := (hr i hi).frozen j
  apart i j _ _ e := by omega
  away i _ := by omega
theorem madeL_set {w : World} {n g k : Nat} (h : Blk w g 36 (madeH n g k).toArray) : Blk (w.setCell ⟨g, k, none⟩ (.slice (some ⟨g + 1 + k, 0, none⟩) n n)) g 36 (madeH n g (k + 1)).toArray := by
  have := h.set_ k (.slice (some ⟨g + 1 + k, 0, none⟩) n n)
  refine this.eq_ ?_
  rw [← madeH_set]; simp

set_option maxHeartbeats 8000000 in
theorem trees_b (n : Nat) (A : Option Addr) (c : Nat) (es : List (Int × Int)) (w : World) (r : Int) (hr0 : Hid (treesV n es = r)) (hn1 : 2 ≤ n) (hn : n ≤ 1000) (hl : es.length ≤ 10000) (hin : InN n es) (hr : RdE w A es) :
    Calls Try.prog 49 #[.int .i64 n, .slice A es.length c] w fun e w' => e = .returned (.int .i64 r) ∧ Below w.heap.size w w' := by
  have hmk := mk_row Try.underlying79 infoL n (by omega) (by omega)
  simp only [made_list] at hmk
  have hmk2 := mk_row Try.underlying36 infoI n (by omega) (by omega)
  simp only [made_int] at hmk2
  have hfin : Hid (detF 1 (n - 1) (n - 1) 0 (fun i j => lapTo es es.length (i + 1) j) 1 1 = r) := by show _ = _; rw [treesV_impl]; exact hr0.out
  clear hr0
  have Hin := Lib.hid hin; clear hin
  have hre := fun W (hW : Below w.heap.size w W) => hr.below hW
  clear hr
  generalize hm : es.length = L at *
  have Hm := Lib.hid hm; clear hm
  go_enter Try.func49, Try.ntmps49
  go_wp2
  go_loopw [13] (fun s wr => ∃ k : Nat, k ≤ n ∧ s = .int .i64 k ∧ wr.heap.size = w.heap.size + 1 + k ∧ Hid (Blk wr w.heap.size 36 (madeH n w.heap.size k).toArray) ∧ Hid (∀ j, j < k → Blk wr (w.heap.size + 1 + j) 2 (cI (List.replicate n 0)).toArray) ∧ Below w.heap.size w wr) (fun s _ => n - (intOf s).toNat)
  case atStart => exact ⟨0, Nat.zero_le _, rfl, by simp, (by show Blk _ _ _ _; rw [madeH_zero]; exact Blk.new _ _ _), (fun j hj => by omega), by (repeat' (first | (with_reducible exact Below.refl _ _) | (with_reducible assumption) | (with_reducible refine Below.alloc ?_ ?_ _) | (with_reducible refine Below.drew ?_) | (with_reducible refine below_drewN ?_ _) | (with_reducible refine Below.setCell ?_ ?_ _) | (with_reducible refine Below.trans ?_ (Below.mono (by assumption) ?_)) | (first | omega | (simp only [World.size_alloc, World.size_setCell, World.size_drew]; omega) | (simp; omega) | (simp; done))))⟩
  case round =>
    obtain ⟨k, hk, rfl, hsz, HB, HR, hbel⟩ := hrel
    by_cases hlt : k < n
    · have hB := HB.out.alloc (.cells (cI (List.replicate n 0)).toArray 2)
      have fz := hB.frozen k
      have hcell := hB.cellAt k (.slice none 0 0) (by simp [madeH, hlt])
      obtain ⟨ek, ek2, ek3⟩ := idxF k n hlt
      have HB2 := Lib.hid hB; clear hB
      go_wp2
      clear ek ek2 ek3 hcell fz
      refine ⟨⟨k + 1, by omega, by go_num, by simp only [World.setCell, World.alloc, Array.size_push]; simp; omega, madeL_set HB2.out, ?_, (hbel.alloc (by omega) _).setCell (Nat.le_refl _) _⟩, by simp [intOf]; omega⟩
      intro j hj
      refine Blk.far ?_ (by show w.heap.size + 1 + j ≠ w.heap.size; omega) _
      by_cases e : j = k
      · subst e; exact Blk.new' _ hsz.symm
      · exact (HR.out j (by omega)).alloc _
    · obtain rfl : k = n := by omega
      obtain ⟨R, HRge, HM⟩ : ∃ R : Nat → Nat, Hid (∀ i, w.heap.size < R i) ∧ Hid (Mat wr w.heap.size 0 k k R (lapTo es 0)) := ⟨fun j => w.heap.size + 1 + j, (fun i => by show _ < w.heap.size + 1 + i; omega), madeH_mat HB.out HR.out (fun _ _ => rfl)⟩
      clear HB HR hmk hmk2
      obtain ⟨wo, rfl⟩ : ∃ wo : World, wo = wr := ⟨_, rfl⟩
      go_wp2_with fail
      go_loopw [24] (fun s wi => ∃ e : Nat, e ≤ L ∧ s = .int .i64 e ∧ Hid (Mat wi w.heap.size 0 k k R (lapTo es e)) ∧ Below w.heap.size w wi) (fun s _ => L - (intOf s).toNat)
      case atStart => exact ⟨0, Nat.zero_le _, rfl, HM, hbel⟩
      case round =>
        clear HM hsz hbel
        obtain ⟨e, he, rfl, HM, hbel⟩ := hrel
        by_cases hlt2 : e < L
        · obtain ⟨b, off, rfl, hb, hc⟩ := (hre wr hbel).pos (by have := Hm.out; omega)
          obtain ⟨hc0, hc1⟩ := hc e (by have := Hm.out; omega)
          obtain ⟨x, y, hxy, hx, hy⟩ := Hin.out e (by have := Hm.out; omega)
          have Hxy := Lib.hid hxy
          rw [hxy] at hc0 hc1
          dsimp only at hc0 hc1
          clear hc hxy
          by_cases exy : x = y
          · subst exy
            go_wp2
            refine ⟨⟨e + 1, by omega, by go_num, ?_, hbel.alloc hbel.size _⟩, by simp [intOf]; omega⟩
            show Mat _ _ _ _ _ _ _
            rw [lapTo_loop Hxy.out]
            exact HM.out.keep (Below.alloc (Below.refl _ _) (Nat.le_refl _) _)
          · have m1 : ¬ ((x : Int) = y) := by omega
            have HRlt : Hid (∀ i, i < k → R i < wr.heap.size) := HM.out.rlt
            have hM1 := HM.out.keep (Below.alloc (Below.refl _ _) (Nat.le_refl _) (.cells #[.int .i64 (x : Int), .int .i64 (y : Int)] 61))
            have hP1 := Blk.new wr 61 #[.int .i64 (x : Int), .int .i64 (y : Int)]
            have bW1 := hbel.alloc hbel.size (.cells #[.int .i64 (x : Int), .int .i64 (y : Int)] 61)
            have Hlap := Lib.hid (lapTo_edge Hxy.out)
            have HBd : Hid (BdM (lapTo es e) (2 * (e : Int))) := fun a b => lapTo_bd es e a b
            go_wp2
            clear m1 hc0 hc1 HM
            have HM := Lib.hid hM1; have HP := Lib.hid hP1; have bW := bW1
            clear hM1 hP1 bW1
            generalize wr.alloc (.cells #[.int .i64 (x : Int), .int .i64 (y : Int)] 61) = W1 at *
            have gI := HM.out.head x hx
            have cc := HM.out.cell x hx x hx
            have ff := HM.out.free x hx x
            rw [Nat.zero_add] at gI
            obtain ⟨v, Hv⟩ : ∃ v, Hid ((lapTo es e) x x = v) := ⟨_, rfl⟩
            rw [Hv.out] at cc
            have p0 := HP.out.cellAt 0 _ rfl
            have p1 := HP.out.cellAt 1 _ rfl
            obtain ⟨ex, ex2, ex3⟩ := idxF x k hx
            obtain ⟨ey, ey2, ey3⟩ := idxF y k hy
            go_still_tail 11, (by kernel_rfl)
            change wpList _ _ _ _ _ W1.drew
            go_wp2
            clear gI cc ff p0 p1 ex ex2 ex3 ey ey2 ey3
            have hM' := (HM.out.inc hx hx HBd.out (by omega)).keep (Below.drew (Below.refl _ _))
            rw [Hv.out] at hM'
            have hP' := (HP.out.far (p := ⟨R x, x, none⟩) (by have := HRlt.out x hx; show wr.heap.size ≠ R x; omega) (.int .i64 (wrap64 (v + 1)))).drew
            have bW' := (bW.setCell (p := ⟨R x, x, none⟩) (by have := HRge.out x; show w.heap.size ≤ R x; omega) (.int .i64 (wrap64 (v + 1)))).drew
            have hB' := HBd.out.inc x x (d := 1) (by omega)
            clear HM HP bW HBd Hv
            have HM := Lib.hid hM'; have HP := Lib.hid hP'; have bW := bW'; have HBd := Lib.hid hB'
            clear hM' hP' bW' hB'
            generalize (W1.setCell ⟨R x, x, none⟩ (.int .i64 (wrap64 (v + 1)))).drew = W2 at *
            generalize incM (lapTo es e) x x 1 = M2 at *
            have gI := HM.out.head y hy
            have cc := HM.out.cell y hy y hy
            have ff := HM.out.free y hy y
            rw [Nat.zero_add] at gI
            obtain ⟨v, Hv⟩ : ∃ v, Hid (M2 y y = v) := ⟨_, rfl⟩
            rw [Hv.out] at cc
            have p0 := HP.out.cellAt 0 _ rfl
            have p1 := HP.out.cellAt 1 _ rfl
            obtain ⟨ex, ex2, ex3⟩ := idxF x k hx
            obtain ⟨ey, ey2, ey3⟩ := idxF y k hy
            go_still_tail 11, (by kernel_rfl)
            change wpList _ _ _ _ _ W2.drew
            go_wp2
            clear gI cc ff p0 p1 ex ex2 ex3 ey ey2 ey3
            have hM' := (HM.out.inc hy hy HBd.out (by omega)).keep (Below.drew (Below.refl _ _))
            rw [Hv.out] at hM'
            have hP' := (HP.out.far (p := ⟨R y, y, none⟩) (by have := HRlt.out y hy; show wr.heap.size ≠ R y; omega) (.int .i64 (wrap64 (v + 1)))).drew
            have bW' := (bW.setCell (p := ⟨R y, y, none⟩) (by have := HRge.out y; show w.heap.size ≤ R y; omega) (.int .i64 (wrap64 (v + 1)))).drew
            have hB' := HBd.out.inc y y (d := 1) (by omega)
            clear HM HP bW HBd Hv
            have HM := Lib.hid hM'; have HP := Lib.hid hP'; have bW := bW'; have HBd := Lib.hid hB'
            clear hM' hP' bW' hB'
            generalize (W2.setCell ⟨R y, y, none⟩ (.int .i64 (wrap64 (v + 1)))).drew = W3 at *
            generalize incM M2 y y 1 = M3 at *
            have gI := HM.out.head x hx
            have cc := HM.out.cell x hx y hy
            have ff := HM.out.free x hx y
            rw [Nat.zero_add] at gI
            obtain ⟨v, Hv⟩ : ∃ v, Hid (M3 x y = v) := ⟨_, rfl⟩
            rw [Hv.out] at cc
            have p0 := HP.out.cellAt 0 _ rfl
            have p1 := HP.out.cellAt 1 _ rfl
            obtain ⟨ex, ex2, ex3⟩ := idxF x k hx
            obtain ⟨ey, ey2, ey3⟩ := idxF y k hy
            go_still_tail 11, (by kernel_rfl)
            change wpList _ _ _ _ _ W3.drew
            go_wp2
            clear gI cc ff p0 p1 ex ex2 ex3 ey ey2 ey3
            have hM' := (HM.out.dec hx hy HBd.out (by omega)).keep (Below.drew (Below.refl _ _))
            rw [Hv.out] at hM'
            have hP' := (HP.out.far (p := ⟨R x, y, none⟩) (by have := HRlt.out x hx; show wr.heap.size ≠ R x; omega) (.int .i64 (wrap64 (v - 1)))).drew
            have bW' := (bW.setCell (p := ⟨R x, y, none⟩) (by have := HRge.out x; show w.heap.size ≤ R x; omega) (.int .i64 (wrap64 (v - 1)))).drew
            have hB' := HBd.out.inc x y (d := (-1)) (by omega)
            clear HM HP bW HBd Hv
            have HM := Lib.hid hM'; have HP := Lib.hid hP'; have bW := bW'; have HBd := Lib.hid hB'
            clear hM' hP' bW' hB'
            generalize (W3.setCell ⟨R x, y, none⟩ (.int .i64 (wrap64 (v - 1)))).drew = W4 at *
            generalize incM M3 x y (-1) = M4 at *
            have gI := HM.out.head y hy
            have cc := HM.out.cell y hy x hx
            have ff := HM.out.free y hy x
            rw [Nat.zero_add] at gI
            obtain ⟨v, Hv⟩ : ∃ v, Hid (M4 y x = v) := ⟨_, rfl⟩
            rw [Hv.out] at cc
            have p0 := HP.out.cellAt 0 _ rfl
            have p1 := HP.out.cellAt 1 _ rfl
            obtain ⟨ex, ex2, ex3⟩ := idxF x k hx
            obtain ⟨ey, ey2, ey3⟩ := idxF y k hy
            go_still_tail 11, (by kernel_rfl)
            change wpList _ _ _ _ _ W4.drew
            go_wp2
            clear gI cc ff p0 p1 ex ex2 ex3 ey ey2 ey3
            have hM' := (HM.out.dec hy hx HBd.out (by omega)).keep (Below.drew (Below.refl _ _))
            rw [Hv.out] at hM'
            have hP' := (HP.out.far (p := ⟨R y, x, none⟩) (by have := HRlt.out y hy; show wr.heap.size ≠ R y; omega) (.int .i64 (wrap64 (v - 1)))).drew
            have bW' := (bW.setCell (p := ⟨R y, x, none⟩) (by have := HRge.out y; show w.heap.size ≤ R y; omega) (.int .i64 (wrap64 (v - 1)))).drew
            have hB' := HBd.out.inc y x (d := (-1)) (by omega)
            clear HM HP bW HBd Hv
            have HM := Lib.hid hM'; have HP := Lib.hid hP'; have bW := bW'; have HBd := Lib.hid hB'
            clear hM' hP' bW' hB'
            generalize (W4.setCell ⟨R y, x, none⟩ (.int .i64 (wrap64 (v - 1)))).drew = W5 at *
            generalize incM M4 y x (-1) = M5 at *
            rw [Hlap.out] at HM
            refine ⟨⟨e + 1, by omega, by go_num, HM, bW⟩, by simp [intOf]; omega⟩
        · obtain rfl : e = L := by omega
          have ct := determinant_b w.heap.size 1 (k - 1) k 1 (k - 1) w.heap.size (fun i => R (i + 1)) (fun i j => lapTo es e (i + 1) j) wr r hfin (by omega) (by omega) (by omega) (Mat.tail (off := 0) (n := k - 1) (by rw [show k - 1 + 1 = k by omega]; exact HM.out)) (Nat.le_refl _) (fun i _ => by have := HRge.out (i + 1); omega) hbel.size
          rw [show ((1 : Nat) : Int) = 1 from rfl] at ct
          go_wp2_with fail
          refine ct.mono ?_
          rintro e' w2 ⟨rfl, hb2⟩
          go_wp2
          go_ret
          exact ⟨rfl, by (repeat' (first | (with_reducible exact Below.refl _ _) | (with_reducible assumption) | (with_reducible refine Below.alloc ?_ ?_ _) | (with_reducible refine Below.drew ?_) | (with_reducible refine below_drewN ?_ _) | (with_reducible refine Below.setCell ?_ ?_ _) | (with_reducible refine Below.trans ?_ (Below.mono (by assumption) ?_)) | (first | omega | (simp only [World.size_alloc, World.size_setCell, World.size_drew]; omega) | (simp; omega) | (simp; done))))⟩
end Go.Proofs.Ytkpnplldnihalaa
