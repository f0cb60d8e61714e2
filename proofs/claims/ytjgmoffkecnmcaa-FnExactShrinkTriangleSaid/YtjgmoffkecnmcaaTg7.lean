/- The reference's ShrinkTriangle: the graph. No statement of the program is proved here. -/
import Derived.Test.YtjgmoffkecnmcaaTg6
import Derived.Test.YtjgmoffkecnmcaaTg5
import Derived.Test.YtjgmoffkecnmcaaWo4
import Derived.Test.YtjgmoffkecnmcaaWo5
import Derived.Test.YtjgmoffkecnmcaaGo1
namespace Go.Proofs.Ytjgmoffkecnmcaa
open Go.RowKit
set_option linter.unusedSimpArgs false
set_option linter.unusedVariables false
set_option maxRecDepth 20000

theorem numV_le (T : Nat) (v : Nat) : -1 ≤ numV T 0 v ∧ numV T 0 v ≤ v := by
  unfold numV
  have := frV_ge (s := T) (v := v) (f := 0) (by omega)
  split <;> omega
theorem woL_bound {N : Nat} {es : List (Int × Int)} (hin : InN N es) (T : Nat) : ∀ k, k < (woL T 0 es).length → (-1 ≤ ((woL T 0 es).getD k (0, 0)).1 ∧ ((woL T 0 es).getD k (0, 0)).1 ≤ N) ∧ (-1 ≤ ((woL T 0 es).getD k (0, 0)).2 ∧ ((woL T 0 es).getD k (0, 0)).2 ≤ N) := by
  intro k hk
  have hm : (woL T 0 es).getD k (0, 0) ∈ woL T 0 es := by
    have : (woL T 0 es).getD k (0, 0) = (woL T 0 es)[k] := by simp [List.getD, hk]
    rw [this]; exact List.getElem_mem hk
  generalize (woL T 0 es).getD k (0, 0) = p at hm
  unfold woL at hm
  rw [List.mem_map] at hm
  obtain ⟨e, he, rfl⟩ := hm
  rw [List.mem_filter] at he
  obtain ⟨j, hj, rfl⟩ := List.mem_iff_getElem.1 he.1
  obtain ⟨x, y, hxy, hx, hy⟩ := hin j hj
  have e1 : es[j] = es.getD j (0, 0) := by simp [List.getD, hj]
  rw [e1, hxy]
  simp only [shE, Int.toNat_natCast]
  have h1 := shC_le T x
  have h2 := shC_le T y
  omega
theorem fixV_yes {l : Nat} {z z0 : Int} (h0 : (l : Int) = z0) (h : decide (z ≥ z0) = true) : fixV l z = z + 1 := by
  unfold fixV; rw [h0, if_pos (by simpa using h)]
theorem fixV_no {l : Nat} {z z0 : Int} (h0 : (l : Int) = z0) (h : decide (z ≥ z0) = false) : fixV l z = z := by
  unfold fixV; rw [h0, if_neg (by simpa using h)]
theorem take_snocI {xs : List Int} {k : Nat} (h : k < xs.length) : xs.take (k + 1) = xs.take k ++ [xs.getD k 0] := by
  rw [List.take_add_one, List.getElem?_eq_getElem h]; simp [List.getD, h]
theorem map_getD0 {xs : List Int} {f : Int → Int} {k : Nat} (h : k < xs.length) : (xs.map f).getD k 0 = f (xs.getD k 0) := by simp [List.getD, h]

set_option maxHeartbeats 32000000 in
/-- The graph. -/
theorem specTri_yes (N : Nat) (A : Option Addr) (c : Nat) (es : List (Int × Int)) (a b d : Int) (w : World) (l : Nat) (hl : es.length ≤ 1000) (hr : RdE w A es) (hq : Hid (isGraphB N es = true)) (hv : Hid ([a, b, d].all (fun v => inB v 0 ((N : Int) - 1)) = true)) (hj1 : joinC es a b es.length = 1) (hj2 : joinC es b d es.length = 1) (hj3 : joinC es a d es.length = 1)
    (h1 : a ≠ b) (h2 : b ≠ d) (h3 : a ≠ d) (hmin : min a (min b d) = (l : Int)) :
    Calls Try.prog 12 #[.agg #[.int .i64 N, .slice A es.length c], .int .i64 a, .int .i64 b, .int .i64 d] w fun e w' => RetG w' w.heap.size e ((N : Int) - 2) (madeE (tsL (setN [a, b, d]) l es [a, b, d])) 0 ∧ Below w.heap.size w w' := by
  have hvs : ∀ v ∈ [a, b, d], inB v 0 ((N : Int) - 1) = true := by
    intro v hv9
    have := hv.out
    rw [List.all_eq_true] at this
    exact this v hv9
  have hn := isGraphB_n hq.out
  have hin := isGraphB_in hq.out
  rw [Int.toNat_natCast] at hin
  have hb0 : ∀ v ∈ [a, b, d], 0 ≤ v ∧ v < N := fun v hv9 => by have := inB_true.1 (hvs v hv9); omega
  have ha0 := hb0 a (by simp)
  have hb0' := hb0 b (by simp)
  have hd0 := hb0 d (by simp)
  have cv := fun W G (hW : Below w.heap.size w W) (hG : RdI W G [a, b, d]) => l06Vertices_b N A c es G 3 [a, b, d] W true true hq hv (by omega) (by simp) (hr.below hW) hG
  rw [show gcode true true = 0 from rfl] at cv
  have C1 := fun W (hW : Below w.heap.size w W) => l06Joined_b N A c es a b W (by omega) (hr.below hW)
  have C2 := fun W (hW : Below w.heap.size w W) => l06Joined_b N A c es b d W (by omega) (hr.below hW)
  have C3 := fun W (hW : Below w.heap.size w W) => l06Joined_b N A c es a d W (by omega) (hr.below hW)
  obtain ⟨j1, Hj1⟩ : ∃ j, Hid (joinC es a b es.length = j) := ⟨_, rfl⟩
  obtain ⟨j2, Hj2⟩ : ∃ j, Hid (joinC es b d es.length = j) := ⟨_, rfl⟩
  obtain ⟨j3, Hj3⟩ : ∃ j, Hid (joinC es a d es.length = j) := ⟨_, rfl⟩
  rw [Hj1.out] at C1 hj1
  rw [Hj2.out] at C2 hj2
  rw [Hj3.out] at C3 hj3
  generalize joinF es a b es.length = i1 at *
  generalize joinF es b d es.length = i2 at *
  generalize joinF es a d es.length = i3 at *
  have c5 := fun W G (hW : Below w.heap.size w W) (hG : RdI W G [a, b, d]) => l06Without_b N A c es 0 G 3 [a, b, d] W hl (by omega) (by omega) (fun x hx => (hb0 x hx).1) (by simp) hin (hr.below hW) hG
  have c7 := fun W v (hv9 : v ∈ [a, b, d]) (hW : Below w.heap.size w W) => l06Ends_b N A c es N v (-1) W hl (by omega) (by have := hb0 v hv9; omega) hin (ends_three hq.out (hvs v hv9)).1 (hr.below hW)
  have He3 : Hid (∀ v ∈ [a, b, d], (endsL es v).length = 3 ∧ ∀ i, i < 3 → 0 ≤ (endsL es v).getD i 0 ∧ (endsL es v).getD i 0 < N) := fun v hv9 => ⟨(ends_three hq.out (hvs v hv9)).2.1, fun i hi => by have := (ends_three hq.out (hvs v hv9)).2.2 i hi; omega⟩
  have c9 := fun Q cc (W : World) hQ => l01Made_b ((N : Int) - 2) Q cc (tsL (setN [a, b, d]) l es [a, b, d]) W (by have := tsL_len hq.out (setN [a, b, d]) l [a, b, d] hvs; simp at this; omega) hQ
  have Htl : Hid (∀ i, (tsL (setN [a, b, d]) l es ([a, b, d].take i)).length ≤ 1100) := fun i => by
    have h8 := tsL_len hq.out (setN [a, b, d]) l ([a, b, d].take i) fun v hv9 => hvs v (List.mem_of_mem_take hv9)
    have h9 : ([a, b, d].take i).length ≤ 3 := by rw [List.length_take]; exact Nat.min_le_right _ _
    omega
  have Hbit : Hid (∀ i : Nat, (setN [a, b, d]).testBit i = decide ((i : Int) ∈ [a, b, d])) := setN_bit fun x hx => (hb0 x hx).1
  have Hwb := Lib.hid (woL_bound hin (setN [a, b, d]))
  have g2 : (a == b) = false := by simpa using h1
  have g3 : (b == d) = false := by simpa using h2
  have g4 : (a == d) = false := by simpa using h3
  have g5 : (j1 != 1) = false := by simpa using hj1
  have g6 : (j2 != 1) = false := by simpa using hj2
  have g7 : (j3 != 1) = false := by simpa using hj3
  obtain ⟨m1, Hm1⟩ : ∃ m : Int, Hid ((if b < a then b else a) = m) := ⟨_, rfl⟩
  have hm1 : (if b < a then b else a) = m1 := Hm1.out
  obtain ⟨z0, Hz0⟩ : ∃ z : Int, Hid ((l : Int) = z) := ⟨_, rfl⟩
  have hm2 : (if d < m1 then d else m1) = z0 := by
    rw [← Hz0.out, ← hm1, ← hmin]; split <;> split <;> omega
  have hm1b : min a b = m1 := by rw [← hm1]; split <;> omega
  have hm2b : min m1 d = z0 := by rw [← hm2]; split <;> omega
  obtain ⟨T, HT⟩ : ∃ T, Hid (setN [a, b, d] = T) := ⟨_, rfl⟩
  rw [HT.out] at c9 Htl Hbit Hwb
  simp only [HT.out] at c5 ⊢
  obtain ⟨W1, HW1⟩ : ∃ E, Hid (woL T 0 es = E) := ⟨_, rfl⟩
  obtain ⟨X, HX⟩ : ∃ E, Hid (numL T 0 N = E) := ⟨_, rfl⟩
  have HXl : Hid (X.length = N) := by show _ = _; rw [← HX.out, numL_len]
  have HXb : Hid (∀ k, k < N → X.getD k 0 = numV T 0 k ∧ -1 ≤ X.getD k 0 ∧ X.getD k 0 ≤ 60) := fun k hk => by
    rw [← HX.out, numL_getD hk]; have := numV_le T k; exact ⟨rfl, by omega, by omega⟩
  have HE0 : Hid (tsL T l es [] = W1.map (fixP l)) := by show _ = _; rw [tsL_nil, HW1.out]
  rw [HW1.out] at Hwb
  simp only [HW1.out, HX.out] at c5
  obtain ⟨T1, HT1⟩ : ∃ L, Hid (W1.length = L) := ⟨_, rfl⟩
  simp only [HT1.out] at c5
  rw [HT1.out] at Hwb
  have HT1b : Hid (T1 ≤ 1000) := by show _ ≤ _; rw [← HT1.out, ← HW1.out]; have := woL_len T 0 es; omega
  have HN20 : Hid (2 ≤ N ∧ N ≤ 20) := by show _ ∧ _; omega
  have p9 : wrap64 ((N : Int) - 2) = (N : Int) - 2 := wrap64_small (by omega) (by omega)
  obtain ⟨L, HL⟩ : ∃ L, Hid (es.length = L) := ⟨_, rfl⟩
  obtain ⟨n, Hn⟩ : ∃ n : Int, Hid ((N : Int) = n) := ⟨_, rfl⟩
  rw [HL.out] at cv C1 C2 C3 c5 c7 ⊢
  simp only [endW_none] at c7
  have HNn : Hid (∀ x : Int, x < (N : Int) ↔ x < n) := fun x => by rw [Hn.out]
  simp only [show (Value.int .i64 (N : Int)) = .int .i64 n by rw [Hn.out]] at cv C1 C2 C3 c5 c7 ⊢
  rw [Hn.out] at c9 p9 ⊢
  have cv := Lib.hid cv
  have C1 := Lib.hid C1
  have C2 := Lib.hid C2
  have C3 := Lib.hid C3
  have C5 := Lib.hid c5
  have C7 := Lib.hid c7
  have C9 := Lib.hid c9
  clear c5 c7 c9 hr hq hv hj1 hj2 hj3 h1 h2 h3 hmin hvs hn hin hb0 ha0 hb0' hd0 hl Hm1 HNn HT HX HW1
  go_enter Try.func12, Try.ntmps12
  go_wp2_with fail
  refine (cv.out (((w.alloc (.cells #[.int .i64 n, .slice A L c] 28)).alloc (.cells #[.int .i64 0, .slice none 0 0] 28)).alloc (.cells #[.int .i64 a, .int .i64 b, .int .i64 d] 2)) (some ⟨w.heap.size + 1 + 1, 0, none⟩) (by (repeat' (first | (with_reducible exact Below.refl _ _) | (with_reducible assumption) | (with_reducible refine Below.alloc ?_ ?_ _) | (with_reducible refine Below.drew ?_) | (with_reducible refine below_drewN ?_ _) | (with_reducible refine Below.setCell ?_ ?_ _) | (with_reducible refine Below.trans ?_ (Below.mono (by assumption) ?_)) | (first | omega | (simp only [World.size_alloc, World.size_setCell, World.size_drew]; omega) | (simp; omega) | (simp; done))))) (blkI_rd (t := 2) (xs := [a, b, d]) (Blk.new' _ (by simp)))).mono ?_
  rintro e w1 ⟨rfl, hb1'⟩
  have hb1 : Below ((w.alloc (.cells #[.int .i64 n, .slice A L c] 28)).alloc (.cells #[.int .i64 0, .slice none 0 0] 28)).heap.size ((w.alloc (.cells #[.int .i64 n, .slice A L c] 28)).alloc (.cells #[.int .i64 0, .slice none 0 0] 28)) w1 := (Below.alloc (Below.refl _ _) (Nat.le_refl _) _).trans (hb1'.mono (by simp))
  clear hb1'
  have HG1 := Lib.hid (((Blk.new w _ _).alloc _).below hb1 (by simp <;> omega) : Blk w1 w.heap.size 28 #[.int .i64 n, .slice A L c])
  have HZ1 := Lib.hid ((Blk.new' (n := w.heap.size + 1) _ (by simp)).below hb1 (by simp) : Blk w1 (w.heap.size + 1) 28 #[.int .i64 0, .slice none 0 0])
  have Hb1 : Hid (Below w.heap.size w w1) := by show Below _ _ _; exact Below.trans (b := ((w.alloc (.cells #[.int .i64 n, .slice A L c] 28)).alloc (.cells #[.int .i64 0, .slice none 0 0] 28))) (by (repeat' (first | (with_reducible exact Below.refl _ _) | (with_reducible assumption) | (with_reducible refine Below.alloc ?_ ?_ _) | (with_reducible refine Below.drew ?_) | (with_reducible refine below_drewN ?_ _) | (with_reducible refine Below.setCell ?_ ?_ _) | (with_reducible refine Below.trans ?_ (Below.mono (by assumption) ?_)) | (first | omega | (simp only [World.size_alloc, World.size_setCell, World.size_drew]; omega) | (simp; omega) | (simp; done))))) (hb1.mono (by simp; omega))
  clear hb1
  have k0 := HG1.out.cellAt 0 _ rfl
  have k1 := HG1.out.cellAt 1 _ rfl
  have z9 := HZ1.out.lt
  go_wp2_with fail
  refine (C1.out w1 Hb1.out).mono ?_
  rintro e w2 ⟨rfl, hb2⟩
  have hbb2 := hb2
  have HG2 := Lib.hid (HG1.out.below hbb2 (by have := HZ1.out.lt; omega))
  have HZ2 := Lib.hid (HZ1.out.below hbb2 HZ1.out.lt)
  have Hb2 : Hid (Below w.heap.size w w2) := Hb1.out.trans (hbb2.mono (by have := HZ1.out.lt; omega))
  clear k0 k1 z9 hb2 hbb2 HG1 HZ1 Hb1
  have k0 := HG2.out.cellAt 0 _ rfl
  have k1 := HG2.out.cellAt 1 _ rfl
  have z9 := HZ2.out.lt
  go_wp2_with fail
  refine (C2.out w2 Hb2.out).mono ?_
  rintro e w3 ⟨rfl, hb3⟩
  have hbb3 := hb3
  have HG3 := Lib.hid (HG2.out.below hbb3 (by have := HZ2.out.lt; omega))
  have HZ3 := Lib.hid (HZ2.out.below hbb3 HZ2.out.lt)
  have Hb3 : Hid (Below w.heap.size w w3) := Hb2.out.trans (hbb3.mono (by have := HZ2.out.lt; omega))
  clear k0 k1 z9 hb3 hbb3 HG2 HZ2 Hb2
  have k0 := HG3.out.cellAt 0 _ rfl
  have k1 := HG3.out.cellAt 1 _ rfl
  have z9 := HZ3.out.lt
  go_wp2_with fail
  refine (C3.out w3 Hb3.out).mono ?_
  rintro e w4 ⟨rfl, hb4⟩
  have hbb4 := hb4
  have HG4 := Lib.hid (HG3.out.below hbb4 (by have := HZ3.out.lt; omega))
  have HZ4 := Lib.hid (HZ3.out.below hbb4 HZ3.out.lt)
  have Hb4 : Hid (Below w.heap.size w w4) := Hb3.out.trans (hbb4.mono (by have := HZ3.out.lt; omega))
  clear k0 k1 z9 hb4 hbb4 HG3 HZ3 Hb3
  have k0 := HG4.out.cellAt 0 _ rfl
  have k1 := HG4.out.cellAt 1 _ rfl
  have z9 := HZ4.out.lt
  go_wp2_with fail
  refine (C5.out (w4.alloc (.cells #[.int .i64 a, .int .i64 b, .int .i64 d] 2)) (some ⟨w4.heap.size, 0, none⟩) (Hb4.out.alloc (by omega) _) (blkI_rd (t := 2) (xs := [a, b, d]) (Blk.new' _ rfl))).mono ?_
  rintro e w5 ⟨ge, ce, gi, ci, rfl, hE5, hI5, hb5⟩
  have hbb5 : Below w4.heap.size w4 w5 := (Below.alloc (Below.refl _ _) (Nat.le_refl _) _).trans (hb5.mono (by simp))
  have HE5 := Lib.hid (own_mono hE5 (show w.heap.size ≤ _ by simp; have := HZ4.out.lt; omega))
  have HI5 := Lib.hid (own_mono hI5 (show w.heap.size ≤ _ by simp; have := HZ4.out.lt; omega))
  clear hE5 hI5
  have HG5 := Lib.hid (HG4.out.below hbb5 (by have := HZ4.out.lt; omega))
  have HZ5 := Lib.hid (HZ4.out.below hbb5 HZ4.out.lt)
  have Hb5 : Hid (Below w.heap.size w w5) := Hb4.out.trans (hbb5.mono (by have := HZ4.out.lt; omega))
  clear k0 k1 z9 hb5 hbb5 HG4 HZ4 Hb4
  have k0 := HG5.out.cellAt 0 _ rfl
  have k1 := HG5.out.cellAt 1 _ rfl
  have z9 := HZ5.out.lt
  clear k0 k1 z9 C1 C2 C3 C5 cv g2 g3 g4 g5 g6 g7
  go_wp2_with fail
  go_loopw [20] (fun ii wr => ∃ k : Nat, k ≤ N ∧ ii = .int .i64 k ∧ Hid (wr.ownsRow w.heap.size 2 1 (.slice (some ⟨gi, 0, none⟩) N ci) N (cI (fixI l X k))) ∧ Hid (wr.ownsRow w.heap.size 45 2 (.slice (some ⟨ge, 0, none⟩) T1 ce) T1 (cE W1)) ∧ Hid (Blk wr w.heap.size 28 #[.int .i64 n, .slice A L c]) ∧ Hid (Blk wr (w.heap.size + 1) 28 #[.int .i64 0, .slice none 0 0]) ∧ Hid (Below w.heap.size w wr)) (fun ii _ => N - (intOf ii).toNat)
  case atStart => exact ⟨0, Nat.zero_le _, rfl, by rw [fixI_zero]; exact HI5, HE5, HG5, HZ5, Hb5⟩
  case round =>
    clear HE5 HI5 HG5 HZ5 Hb5
    obtain ⟨k, hk, rfl, HI, HE, HG, HZ, Hbel⟩ := hrel
    by_cases hlt : k < N
    · obtain ⟨ek, ek2, ek3⟩ := idxF k N hlt
      have hx := HXb.out k hlt
      have d1 : wr.cell? ⟨gi, k, none⟩ = some (.int .i64 (X.getD k 0)) := by
        have h := own_cellI HI.out (by rw [fixI_len l X k (by rw [HXl.out]; exact hk), HXl.out]) hlt
        rw [fixI_get (by rw [HXl.out]; exact hlt)] at h
        exact h
      have fz : wr.frozen? ⟨gi, k, none⟩ = false := by
        obtain ⟨cur, hB, _⟩ := own_blkI' HI.out
        exact hB.frozen k
      have hge := (HI.out.lt gi rfl).1
      have Hset : Hid ((fixI l X k).set k (fixV l (X.getD k 0)) = fixI l X (k + 1)) := fixI_set (by rw [HXl.out]; exact hlt)
      have Hsam : Hid (fixV l (X.getD k 0) = X.getD k 0 → fixI l X k = fixI l X (k + 1)) := fixI_same (by rw [HXl.out]; exact hlt)
      obtain ⟨z, Hz⟩ : ∃ z, Hid (X.getD k 0 = z) := ⟨_, rfl⟩
      rw [Hz.out] at d1 Hset Hsam hx
      have hN20 := HN20.out
      have p1 : wrap64 (z + 1) = z + 1 := wrap64_small (by omega) (by omega)
      have hk9 : k ≤ 20 := by omega
      clear hx hN20
      cases q1 : decide (z ≥ z0)
      · have Hs := Lib.hid (Hsam.out (fixV_no Hz0.out q1))
        clear Hset Hsam
        go_wp2
        exact ⟨⟨k + 1, by omega, by go_num, by rw [← Hs.out]; exact HI, HE, HG, HZ, Hbel⟩, by simp [intOf]; omega⟩
      · have Hs := Hset.out
        rw [fixV_yes Hz0.out q1] at Hs
        have HI2 := Lib.hid (own_setI HI.out (by rw [fixI_len l X k (by rw [HXl.out]; exact hk), HXl.out]) hlt (z + 1))
        rw [Hs] at HI2
        have HE2 := Lib.hid (own_farT HE.out HI.out (by decide) k (.int .i64 (z + 1)))
        have HG2 := Lib.hid (blk_farT HG.out HI.out (by decide) k (.int .i64 (z + 1)))
        have HZ2 := Lib.hid (blk_farT HZ.out HI.out (by decide) k (.int .i64 (z + 1)))
        have Hb2 := Lib.hid (Hbel.out.setCell (p := ⟨gi, k, none⟩) hge (.int .i64 (z + 1)))
        clear Hs Hset Hsam hge
        go_wp2
        exact ⟨⟨k + 1, by omega, by go_num, HI2, HE2, HG2, HZ2, Hb2⟩, by simp [intOf]; omega⟩
    · obtain rfl : N = k := by omega
      have HI6 : Hid (wr.ownsRow w.heap.size 2 1 (.slice (some ⟨gi, 0, none⟩) N ci) N (cI (X.map (fixV l)))) := by
        have h := HI.out
        rw [show fixI l X N = X.map (fixV l) by rw [← fixI_full, HXl.out]] at h
        exact h
      clear HI
      go_wp2_with fail
      go_loopw [21] (fun ii wr => ∃ e : Nat, e ≤ T1 ∧ ii = .int .i64 e ∧ Hid (wr.ownsRow w.heap.size 2 1 (.slice (some ⟨gi, 0, none⟩) N ci) N (cI (X.map (fixV l)))) ∧ Hid (wr.ownsRow w.heap.size 45 2 (.slice (some ⟨ge, 0, none⟩) T1 ce) T1 (cE (fixEs l W1 e))) ∧ Hid (Blk wr w.heap.size 28 #[.int .i64 n, .slice A L c]) ∧ Hid (Blk wr (w.heap.size + 1) 28 #[.int .i64 0, .slice none 0 0]) ∧ Hid (Below w.heap.size w wr)) (fun ii _ => T1 - (intOf ii).toNat)
      case atStart => exact ⟨0, Nat.zero_le _, rfl, HI6, by rw [fixEs_zero]; exact HE, HG, HZ, Hbel⟩
      case round =>
        clear HI6 HE HG HZ Hbel
        obtain ⟨k, hk, rfl, HI, HE, HG, HZ, Hbel⟩ := hrel
        by_cases hlt : k < T1
        · obtain ⟨ek, ek2, ek3⟩ := idxF k T1 hlt
          have hk9 : k ≤ 1000 := by have := HT1b.out; omega
          have hltW : k < W1.length := by rw [HT1.out]; exact hlt
          have Hlt := Lib.hid hltW
          have Hwk := Lib.hid (Hwb.out k hlt)
          obtain ⟨⟨x, y⟩, Hp⟩ : ∃ p, Hid (W1.getD k (0, 0) = p) := ⟨_, rfl⟩
          rw [Hp.out] at Hwk
          have HE : Hid (wr.ownsRow w.heap.size 45 2 (.slice (some ⟨ge, 0, none⟩) T1 ce) T1 (cE (fixEJ l W1 k 0))) := by show World.ownsRow _ _ _ _ _ _ _; rw [fixEJ_zero hltW]; exact HE.out
          obtain ⟨wo, hwo⟩ : ∃ wo, wo = wr := ⟨_, rfl⟩
          subst hwo
          clear hltW
          go_wp2_with fail
          go_loopw [22] (fun ii wr => ((ii = .int .i64 0 ∧ Hid (wr.ownsRow w.heap.size 45 2 (.slice (some ⟨ge, 0, none⟩) T1 ce) T1 (cE (fixEJ l W1 k 0)))) ∨ (ii = .int .i64 1 ∧ Hid (wr.ownsRow w.heap.size 45 2 (.slice (some ⟨ge, 0, none⟩) T1 ce) T1 (cE (fixEJ l W1 k 1)))) ∨ (ii = .int .i64 2 ∧ Hid (wr.ownsRow w.heap.size 45 2 (.slice (some ⟨ge, 0, none⟩) T1 ce) T1 (cE (fixEJ l W1 k 2))))) ∧ Hid (wr.ownsRow w.heap.size 2 1 (.slice (some ⟨gi, 0, none⟩) N ci) N (cI (X.map (fixV l)))) ∧ Hid (Blk wr w.heap.size 28 #[.int .i64 n, .slice A L c]) ∧ Hid (Blk wr (w.heap.size + 1) 28 #[.int .i64 0, .slice none 0 0]) ∧ Hid (Below w.heap.size w wr)) (fun ii _ => 2 - (intOf ii).toNat)
          case atStart => exact ⟨.inl ⟨rfl, HE⟩, HI, HG, HZ, Hbel⟩
          case round =>
            clear HE HI HG HZ Hbel
            obtain ⟨hcase, HI, HG, HZ, Hbel⟩ := hrel
            rcases hcase with ⟨rfl, HE⟩ | ⟨rfl, HE⟩ | ⟨rfl, HE⟩
            · have hlen := fixEJ_len l W1 k 0 (by have := Hlt.out; omega)
              rw [HT1.out] at hlen
              have hget := fixEJ_get (l := l) (j := 0) Hlt.out
              rw [Hp.out] at hget
              have d1 : wr.cell? ⟨ge, k * 2, none⟩ = some (.int .i64 x) := by
                have h := (own_cellE HE.out hlen hlt).1
                rw [hget] at h
                exact h
              have fz : wr.frozen? ⟨ge, k * 2, none⟩ = false := by
                obtain ⟨cur, hB, _⟩ := own_blkE HE.out
                exact hB.frozen _
              have hge := (HE.out.lt ge rfl).1
              have hwk := Hwk.out
              have hN20 := HN20.out
              try dsimp only at hwk
              have p1 : wrap64 (x + 1) = x + 1 := wrap64_small (by omega) (by omega)
              have W2 : Hid (IntKind.i64.wrap (x + 1) = x + 1) := IntWalk.i64_in _ (by omega)
              clear hwk hN20
              cases q1 : decide (x ≥ z0)
              · have Hs : Hid (fixEJ l W1 k 0 = fixEJ l W1 k 1) := fixEJ_one' (by rw [Hp.out]; exact fixV_no Hz0.out q1)
                clear hget hlen
                go_wp2
                exact ⟨⟨.inr (.inl ⟨rfl, by rw [← Hs.out]; exact HE⟩), HI, HG, HZ, Hbel⟩, by simp [intOf]⟩
              · have HE2 := own_set0 HE.out hlen hlt (x + 1)
                rw [hget] at HE2
                have Hs := fixEJ_one (l := l) (xs := W1) (k := k)
                rw [Hp.out] at Hs
                have HE3 : Hid ((wr.setCell ⟨ge, k * 2, none⟩ (.int .i64 (x + 1))).ownsRow w.heap.size 45 2 (.slice (some ⟨ge, 0, none⟩) T1 ce) T1 (cE (fixEJ l W1 k 1))) := by
                  show World.ownsRow _ _ _ _ _ _ _
                  rw [← Hs]
                  dsimp only
                  rw [fixV_yes Hz0.out q1]
                  exact HE2
                have HI3 := Lib.hid (own_farT HI.out HE.out (by decide) (k * 2) (.int .i64 (x + 1)))
                have HG3 := Lib.hid (blk_farT HG.out HE.out (by decide) (k * 2) (.int .i64 (x + 1)))
                have HZ3 := Lib.hid (blk_farT HZ.out HE.out (by decide) (k * 2) (.int .i64 (x + 1)))
                have Hb3 := Lib.hid (Hbel.out.setCell (p := ⟨ge, k * 2, none⟩) hge (.int .i64 (x + 1)))
                clear HE2 Hs hget hlen hge
                go_wp2
                have wk1 := W2.out
                go_still_tail 9, (by kernel_rfl)
                change wpList _ _ _ _ _ wr.drew
                clear wk1
                go_wp2
                exact ⟨⟨.inr (.inl ⟨rfl, Lib.hid (own_below HE3.out (Below.drew (Below.refl _ _)))⟩), Lib.hid (own_below HI3.out (Below.drew (Below.refl _ _))), Lib.hid HG3.out.drew, Lib.hid HZ3.out.drew, Lib.hid (Below.drew Hb3.out)⟩, by simp [intOf]⟩
            · have hlen := fixEJ_len l W1 k 1 (by have := Hlt.out; omega)
              rw [HT1.out] at hlen
              have hget := fixEJ_get (l := l) (j := 1) Hlt.out
              rw [Hp.out] at hget
              have d1 : wr.cell? ⟨ge, k * 2 + 1, none⟩ = some (.int .i64 y) := by
                have h := (own_cellE HE.out hlen hlt).2
                rw [hget] at h
                exact h
              have fz : wr.frozen? ⟨ge, k * 2 + 1, none⟩ = false := by
                obtain ⟨cur, hB, _⟩ := own_blkE HE.out
                exact hB.frozen _
              have hge := (HE.out.lt ge rfl).1
              have hwk := Hwk.out
              have hN20 := HN20.out
              try dsimp only at hwk
              have p1 : wrap64 (y + 1) = y + 1 := wrap64_small (by omega) (by omega)
              have W2 : Hid (IntKind.i64.wrap (y + 1) = y + 1) := IntWalk.i64_in _ (by omega)
              clear hwk hN20
              cases q1 : decide (y ≥ z0)
              · have Hs : Hid (fixEJ l W1 k 1 = fixEJ l W1 k 2) := fixEJ_last' (by rw [Hp.out]; exact fixV_no Hz0.out q1)
                clear hget hlen
                go_wp2
                exact ⟨⟨.inr (.inr ⟨rfl, by rw [← Hs.out]; exact HE⟩), HI, HG, HZ, Hbel⟩, by simp [intOf]⟩
              · have HE2 := own_set1 HE.out hlen hlt (y + 1)
                rw [hget] at HE2
                have Hs := fixEJ_last (l := l) (xs := W1) (k := k)
                rw [Hp.out] at Hs
                have HE3 : Hid ((wr.setCell ⟨ge, k * 2 + 1, none⟩ (.int .i64 (y + 1))).ownsRow w.heap.size 45 2 (.slice (some ⟨ge, 0, none⟩) T1 ce) T1 (cE (fixEJ l W1 k 2))) := by
                  show World.ownsRow _ _ _ _ _ _ _
                  rw [← Hs]
                  dsimp only
                  rw [fixV_yes Hz0.out q1]
                  exact HE2
                have HI3 := Lib.hid (own_farT HI.out HE.out (by decide) (k * 2 + 1) (.int .i64 (y + 1)))
                have HG3 := Lib.hid (blk_farT HG.out HE.out (by decide) (k * 2 + 1) (.int .i64 (y + 1)))
                have HZ3 := Lib.hid (blk_farT HZ.out HE.out (by decide) (k * 2 + 1) (.int .i64 (y + 1)))
                have Hb3 := Lib.hid (Hbel.out.setCell (p := ⟨ge, k * 2 + 1, none⟩) hge (.int .i64 (y + 1)))
                clear HE2 Hs hget hlen hge
                go_wp2
                have wk1 := W2.out
                go_still_tail 9, (by kernel_rfl)
                change wpList _ _ _ _ _ wr.drew
                clear wk1
                go_wp2
                exact ⟨⟨.inr (.inr ⟨rfl, Lib.hid (own_below HE3.out (Below.drew (Below.refl _ _)))⟩), Lib.hid (own_below HI3.out (Below.drew (Below.refl _ _))), Lib.hid HG3.out.drew, Lib.hid HZ3.out.drew, Lib.hid (Below.drew Hb3.out)⟩, by simp [intOf]⟩
            · have HE2 : Hid (wr.ownsRow w.heap.size 45 2 (.slice (some ⟨ge, 0, none⟩) T1 ce) T1 (cE (fixEs l W1 (k + 1)))) := by show World.ownsRow _ _ _ _ _ _ _; rw [← fixEJ_two Hlt.out]; exact HE.out
              clear HE
              go_wp2
              exact ⟨⟨k + 1, by omega, by go_num, HI, HE2, HG, HZ, Hbel⟩, by simp [intOf]; omega⟩
        · obtain rfl : T1 = k := by omega
          have HE6 : Hid (wr.ownsRow w.heap.size 45 2 (.slice (some ⟨ge, 0, none⟩) T1 ce) (tsL T l es []).length (cE (tsL T l es []))) := by
            have h := HE.out
            rw [show fixEs l W1 T1 = tsL T l es [] by rw [HE0.out, ← fixEs_full, HT1.out]] at h
            have h9 : (tsL T l es []).length = T1 := by rw [HE0.out, List.length_map, HT1.out]
            rw [h9]
            exact h
          have HT6 : Hid (T1 = (tsL T l es []).length) := by show _ = _; rw [HE0.out, List.length_map, HT1.out]
          clear HE
          obtain ⟨gl, Hgl⟩ : ∃ g, Hid (wr.heap.size = g) := ⟨_, rfl⟩
          have hB7 : Below wr.heap.size wr (wr.alloc (.cells #[.int .i64 a, .int .i64 b, .int .i64 d] 2)) := by (repeat' (first | (with_reducible exact Below.refl _ _) | (with_reducible assumption) | (with_reducible refine Below.alloc ?_ ?_ _) | (with_reducible refine Below.drew ?_) | (with_reducible refine below_drewN ?_ _) | (with_reducible refine Below.setCell ?_ ?_ _) | (with_reducible refine Below.trans ?_ (Below.mono (by assumption) ?_)) | (first | omega | (simp only [World.size_alloc, World.size_setCell, World.size_drew]; omega) | (simp; omega) | (simp; done))))
          have HL7 : Hid (Blk (wr.alloc (.cells #[.int .i64 a, .int .i64 b, .int .i64 d] 2)) gl 2 (cI [a, b, d]).toArray) := by rw [← Hgl.out]; exact Blk.new wr _ _
          have hsz := Hbel.out.size
          have HE7 := Lib.hid (own_below HE6.out hB7)
          have HI7 := Lib.hid (own_below HI.out hB7)
          have HG7 := Lib.hid (HG.out.below hB7 HG.out.lt)
          have HZ7 := Lib.hid (HZ.out.below hB7 HZ.out.lt)
          have Hb7 : Hid (Below w.heap.size w (wr.alloc (.cells #[.int .i64 a, .int .i64 b, .int .i64 d] 2))) := Hbel.out.trans (hB7.mono hsz)
          clear HE6 HI HG HZ Hbel hB7 hsz
          go_wp2_with fail
          simp only [Hgl.out]
          generalize wr.alloc (.cells #[.int .i64 a, .int .i64 b, .int .i64 d] 2) = W7 at *
          go_loopw [18, 24] (fun s ii wr => ∃ i : Nat, i ≤ 3 ∧ ii = .int .i64 i ∧ Hid (wr.ownsRow w.heap.size 45 2 s (tsL T l es ([a, b, d].take i)).length (cE (tsL T l es ([a, b, d].take i)))) ∧ Hid (wr.ownsRow w.heap.size 2 1 (.slice (some ⟨gi, 0, none⟩) N ci) N (cI (X.map (fixV l)))) ∧ Hid (Blk wr gl 2 (cI [a, b, d]).toArray) ∧ Hid (Blk wr w.heap.size 28 #[.int .i64 n, .slice A L c]) ∧ Hid (Blk wr (w.heap.size + 1) 28 #[.int .i64 0, .slice none 0 0]) ∧ Hid (Below w.heap.size w wr)) (fun _ ii _ => 3 - (intOf ii).toNat)
          case atStart => exact ⟨0, by omega, rfl, HE7, HI7, HL7, HG7, HZ7, Hb7⟩
          case round =>
            clear HE7 HI7 HL7 HG7 HZ7 Hb7
            obtain ⟨i, hi, rfl, HE, HI, HL8, HG, HZ, Hbel⟩ := hrel
            obtain ⟨A7, c7, rfl⟩ := own_form HE.out
            have hsz := Hbel.out.size
            by_cases hlt : i < 3
            · obtain ⟨v, Hv⟩ : ∃ v, Hid ([a, b, d].getD i 0 = v) := ⟨_, rfl⟩
              have hmem : v ∈ [a, b, d] := by rw [← Hv.out]; exact getD_mem hlt
              have Htk : Hid ([a, b, d].take (i + 1) = [a, b, d].take i ++ [v]) := by
                show _ = _
                rw [take_snocI (show i < [a, b, d].length from hlt), Hv.out]
              have hel := (He3.out v hmem).1
              have c8 := fun W hW => C7.out W v hmem hW
              obtain ⟨U, HU⟩ : ∃ U, Hid (endsL es v = U) := ⟨_, rfl⟩
              have Hub := Lib.hid (He3.out v hmem).2
              rw [HU.out] at hel Hub
              simp only [HU.out, hel] at c8
              have HUl : Hid (U.length = 3) := hel
              have HtE : Hid (tsL T l es ([a, b, d].take (i + 1)) = (tsL T l es ([a, b, d].take i)) ++ ts1 T l U) := by show _ = _; rw [Htk.out, tsL_snoc, HU.out]
              have HPl := Lib.hid (Htl.out i)
              have k0 := HG.out.cellAt 0 _ rfl
              have k1 := HG.out.cellAt 1 _ rfl
              have k2 : wr.cell? ⟨gl, i, none⟩ = some (.int .i64 v) := by
                have h := blkI_cell HL8.out (j := i) hlt
                rw [Hv.out] at h
                exact h
              obtain ⟨ei, ei2, ei3⟩ := idxF i 3 hlt
              have zg := HG.out.lt
              have zl := HL8.out.lt
              have hbw := Hbel.out
              obtain ⟨K, HKK⟩ : ∃ K, Hid ((tsL T l es ([a, b, d].take i)).length = K) := ⟨_, rfl⟩
              obtain ⟨P, HP⟩ : ∃ P, Hid ((tsL T l es ([a, b, d].take i)) = P) := ⟨_, rfl⟩
              rw [HP.out] at HtE
              have HPl2 : Hid (P.length ≤ 1100) := by have := HPl.out; rw [HP.out] at this; exact this
              rw [HP.out] at HE HKK
              simp only [HP.out]
              clear hel hmem HPl
              go_wp2
              refine wp_region_noPanic ?_
              refine wp_region_held_drew (S := (fun w' => w'.cell? ⟨w.heap.size, 0, none⟩ = some (.int .i64 n) ∧ w'.cell? ⟨w.heap.size, 1, none⟩ = some (.slice A L c) ∧ w'.cell? ⟨gl, i, none⟩ = some (.int .i64 v))) (by kernel_rfl) ?_ (fun hHeld => ?_)
              · (try dsimp only); (first | exact hS2 | exact ⟨k0, k1, k2⟩ | assumption | (first | go_keep | (obtain ⟨hq, _⟩ := bcell ‹Below _ _ _›; (repeat' apply And.intro) <;> (rw [hq _ _ (by first | assumption | omega | (simp; done) | (simp; omega) | (simp; assumption))] <;> (first | assumption | (simp [*]; done))))))
              refine wpAnyH_take_d (i := 0) (d := some 150) (v := ?v1) rfl rfl (by kernel_rfl) (by kernel_rfl) (by kernel_rfl) (fun _ _ _ h => h) (Or.inl ⟨by kernel_rfl, ?y1⟩) (by assumption) ?_
              case y1 => (intro w' hSw; (try dsimp only at hSw); go_simp; try with_reducible rfl)
              try simp only [Act.put, List.setIfInBounds_toArray, List.set_cons_zero, List.set_cons_succ]
              refine wpAnyH_take_d (i := 1) (d := some 151) (v := ?v2) rfl rfl (by kernel_rfl) (by kernel_rfl) (by kernel_rfl) (fun _ _ _ h => h) (Or.inl ⟨by kernel_rfl, ?y2⟩) (by assumption) ?_
              case y2 => (intro w' hSw; (try dsimp only at hSw); go_simp; try with_reducible rfl)
              try simp only [Act.put, List.setIfInBounds_toArray, List.set_cons_zero, List.set_cons_succ]
              refine wpAnyH_take_d (i := 2) (d := some 152) (v := ?v3) rfl rfl (by kernel_rfl) (by kernel_rfl) (by kernel_rfl) (fun _ _ _ h => h) (Or.inl ⟨by kernel_rfl, ?y3⟩) (by assumption) ?_
              case y3 => (intro w' hSw; (try dsimp only at hSw); go_simp; try with_reducible rfl)
              try simp only [Act.put, List.setIfInBounds_toArray, List.set_cons_zero, List.set_cons_succ]
              refine wpAnyH_take_d (i := 3) (d := some 153) (v := ?v4) rfl rfl (by kernel_rfl) (by kernel_rfl) (by kernel_rfl) (fun _ _ _ h => h) (Or.inl ⟨by kernel_rfl, ?y4⟩) (by assumption) ?_
              case y4 => (intro w' hSw; (try dsimp only at hSw); go_simp; try with_reducible rfl)
              try simp only [Act.put, List.setIfInBounds_toArray, List.set_cons_zero, List.set_cons_succ]
              refine wpAnyH_take_d (i := 4) (d := some 154) (v := ?v5) rfl rfl (by kernel_rfl) (by kernel_rfl) (by kernel_rfl) (fun _ _ _ h => h) (Or.inl ⟨by kernel_rfl, ?y5⟩) (by assumption) ?_
              case y5 => (intro w' hSw; (try dsimp only at hSw); go_simp; try with_reducible rfl)
              try simp only [Act.put, List.setIfInBounds_toArray, List.set_cons_zero, List.set_cons_succ]
              refine wpAnyH_ready (rs := [5]) (by kernel_rfl) (by simp) ?_
              refine AllReadyH.cons rfl (fun K hK => ?_) AllReadyH.nil
              go_simp
              refine (c8 _ (by (repeat' (first | (with_reducible exact Below.refl _ _) | (with_reducible assumption) | (with_reducible refine Below.alloc ?_ ?_ _) | (with_reducible refine Below.drew ?_) | (with_reducible refine below_drewN ?_ _) | (with_reducible refine Below.setCell ?_ ?_ _) | (with_reducible refine Below.trans ?_ (Below.mono (by assumption) ?_)) | (first | omega | (simp only [World.size_alloc, World.size_setCell, World.size_drew]; omega) | (simp; omega) | (simp; done)))))).mono ?_; rintro e w8 ⟨A8, cu, rfl, hown8, hb8⟩; have bb8 : Below wr.heap.size wr w8 := (Below.drew (Below.refl _ _)).trans hb8; have hS2 : w8.cell? ⟨w.heap.size, 0, none⟩ = some (.int .i64 n) ∧ w8.cell? ⟨w.heap.size, 1, none⟩ = some (.slice A L c) ∧ w8.cell? ⟨gl, i, none⟩ = some (.int .i64 v) := ⟨(HG.out.below bb8 zg).cellAt 0 _ rfl, (HG.out.below bb8 zg).cellAt 1 _ rfl, ((bcell bb8).1 _ _ zl).trans k2⟩
              refine hK.out _ _ ?s6 (fun hHeld6 => ?_)
              case s6 => ((try dsimp only); (first | exact hS2 | exact ⟨k0, k1, k2⟩ | assumption | (first | go_keep | (obtain ⟨hq, _⟩ := bcell ‹Below _ _ _›; (repeat' apply And.intro) <;> (rw [hq _ _ (by first | assumption | omega | (simp; done) | (simp; omega) | (simp; assumption))] <;> (first | assumption | (simp [*]; done)))))))
              clear hK K hHeld
              have hHeld := hHeld6; clear hHeld6
              try simp only [Act.put, List.setIfInBounds_toArray, List.set_cons_zero, List.set_cons_succ]
              refine wpAnyH_take_d (i := 6) (d := some 25) (v := ?v7) rfl rfl (by kernel_rfl) (by kernel_rfl) (by kernel_rfl) (fun _ _ _ h => h) (Or.inl ⟨by kernel_rfl, ?y7⟩) (by assumption) ?_
              case y7 => (intro w' hSw; (try dsimp only at hSw); go_simp; try with_reducible rfl)
              try simp only [Act.put, List.setIfInBounds_toArray, List.set_cons_zero, List.set_cons_succ]
              refine wpAnyH_done (by kernel_rfl) ?_ _
              refine NoPanic.normal ?_
              have Hb8 : Hid (Below w.heap.size w w8) := Hbel.out.trans (bb8.mono hsz)
              have HG8 := Lib.hid (HG.out.below bb8 zg)
              have HZ8 := Lib.hid (HZ.out.below bb8 HZ.out.lt)
              have HL9 := Lib.hid (HL8.out.below bb8 zl)
              have HI8 := Lib.hid (own_below HI.out bb8)
              have HE8 := Lib.hid (own_below HE.out bb8)
              have HU8 := Lib.hid (own_mono hown8 hsz)
              clear hHeld hS2 hb8 bb8 hown8 HE HI HL8 HG HZ Hbel k0 k1 k2 c8 hbw
              obtain ⟨gu, cu', hv8, _, _⟩ := own_someI HU8.out (by omega)
              injection hv8 with hv5 _ hv6
              subst hv5; subst hv6
              obtain ⟨wo, hwo⟩ : ∃ wo, wo = w8 := ⟨_, rfl⟩
              subst hwo
              go_wp2_with fail
              go_loopw [18, 26] (fun s ii wr => ∃ k : Nat, k ≤ 3 ∧ ii = .int .i64 k ∧ Hid (wr.ownsRow w.heap.size 45 2 s (P ++ ts1 T l (U.take k)).length (cE (P ++ ts1 T l (U.take k)))) ∧ Hid (wr.ownsRow w.heap.size 2 1 (.slice (some ⟨gi, 0, none⟩) N ci) N (cI (X.map (fixV l)))) ∧ Hid (wr.ownsRow w.heap.size 2 1 (.slice (some ⟨gu, 0, none⟩) 3 cu) 3 (cI U)) ∧ Hid (Blk wr gl 2 (cI [a, b, d]).toArray) ∧ Hid (Blk wr w.heap.size 28 #[.int .i64 n, .slice A L c]) ∧ Hid (Blk wr (w.heap.size + 1) 28 #[.int .i64 0, .slice none 0 0]) ∧ Hid (Below w.heap.size w wr)) (fun _ ii _ => 3 - (intOf ii).toNat)
              case atStart => exact ⟨0, by omega, rfl, by { show World.ownsRow _ _ _ _ _ _ _; simpa [ts1, outL] using HE8.out }, HI8, HU8, HL9, HG8, HZ8, Hb8⟩
              case round =>
                clear HE8 HI8 HU8 HL9 HG8 HZ8 Hb8
                obtain ⟨k, hk, rfl, HE, HI, HUo, HL8, HG, HZ, Hbel⟩ := hrel
                obtain ⟨A9, c9, rfl⟩ := own_form HE.out
                have hsz := Hbel.out.size
                by_cases hlt2 : k < 3
                · have hub := Hub.out k hlt2
                  obtain ⟨u, Hu⟩ : ∃ a : Nat, Hid (U.getD k 0 = a) := ⟨(U.getD k 0).toNat, by show _ = _; omega⟩
                  rw [Hu.out] at hub
                  have huN : u < N := by omega
                  have hk3 : k < U.length := by rw [HUl.out]; exact hlt2
                  have Hts : Hid (ts1 T l (U.take (k + 1)) = if T.testBit u = true then ts1 T l (U.take k) else ts1 T l (U.take k) ++ [tsE T l u]) := by
                    show _ = _
                    have h9 : U.take (k + 1) = U.take k ++ [(u : Int)] := by
                      rw [take_snocI hk3, Hu.out]
                    rw [h9, ts1_snoc]
                    rfl
                  have hbu := Hbit.out u
                  have d1 : wr.cell? ⟨gu, k, none⟩ = some (.int .i64 (u : Int)) := by
                    have h := own_cellI HUo.out HUl.out hlt2
                    rw [Hu.out] at h
                    exact h
                  obtain ⟨ek, ek2, ek3⟩ := idxF k 3 hlt2
                  clear hub hk3
                  by_cases hin3 : (u : Int) ∈ [a, b, d]
                  · have Hs2 : Hid (P ++ ts1 T l (U.take (k + 1)) = P ++ ts1 T l (U.take k)) := by
                      show _ = _
                      rw [Hts.out, if_pos (by rw [hbu]; simpa using hin3)]
                    have HE2 : Hid (wr.ownsRow w.heap.size 45 2 (.slice A9 (P ++ ts1 T l (U.take k)).length c9) (P ++ ts1 T l (U.take (k + 1))).length (cE (P ++ ts1 T l (U.take (k + 1))))) := by
                      show World.ownsRow _ _ _ _ _ _ _
                      rw [Hs2.out]
                      exact HE.out
                    clear HE
                    generalize (P ++ ts1 T l (U.take k)).length = KK at *
                    cases q1 : ((u : Int) != a)
                    · clear hin3 hbu
                      go_wp2
                      exact ⟨⟨k + 1, by omega, by go_num, HE2, HI, HUo, HL8, HG, HZ, Hbel⟩, by simp [intOf]; omega⟩
                    · cases q2 : ((u : Int) != b)
                      · clear hin3 hbu
                        go_wp2
                        exact ⟨⟨k + 1, by omega, by go_num, HE2, HI, HUo, HL8, HG, HZ, Hbel⟩, by simp [intOf]; omega⟩
                      · have q3 : ((u : Int) != d) = false := by
                          have h1 : (u : Int) ≠ a := by simpa using q1
                          have h2 : (u : Int) ≠ b := by simpa using q2
                          simp only [List.mem_cons, List.not_mem_nil, or_false] at hin3
                          have h3 : (u : Int) = d := (hin3.resolve_left h1).resolve_left h2
                          simp [h3]
                        clear hin3 hbu
                        go_wp2
                        exact ⟨⟨k + 1, by omega, by go_num, HE2, HI, HUo, HL8, HG, HZ, Hbel⟩, by simp [intOf]; omega⟩
                  · have hn3 : (u : Int) ≠ a ∧ (u : Int) ≠ b ∧ (u : Int) ≠ d := by simpa using hin3
                    have q1 : ((u : Int) != a) = true := by simpa using hn3.1
                    have q2 : ((u : Int) != b) = true := by simpa using hn3.2.1
                    have q3 : ((u : Int) != d) = true := by simpa using hn3.2.2
                    obtain ⟨r, Hr⟩ : ∃ r : Int, Hid (fixV l (numV T 0 u) = r) := ⟨_, rfl⟩
                    have Hs2 : Hid (P ++ ts1 T l (U.take (k + 1)) = (P ++ ts1 T l (U.take k)) ++ [(z0, r)]) := by
                      show _ = _
                      rw [Hts.out, if_neg (by rw [hbu]; simpa using hin3), tsE, Int.toNat_natCast, Hr.out, Hz0.out, List.append_assoc]
                    have d2 : wr.cell? ⟨gi, u, none⟩ = some (.int .i64 r) := by
                      have h := own_cellI HI.out (by rw [List.length_map, HXl.out]) huN
                      rw [map_getD0 (by rw [HXl.out]; exact huN), (HXb.out u huN).1, Hr.out] at h
                      exact h
                    obtain ⟨eu, eu2, eu3⟩ := idxF u N huN
                    have HQl : Hid ((P ++ ts1 T l (U.take k)).length ≤ 2000) := by
                      show _ ≤ _
                      rw [List.length_append]
                      have h1 := ts1_len T l (U.take k)
                      have h2 := List.length_take_le k U
                      have h3 := HPl2.out
                      have h4 := HUl.out
                      omega
                    obtain ⟨Q, HQ⟩ : ∃ Q, Hid (P ++ ts1 T l (U.take k) = Q) := ⟨_, rfl⟩
                    rw [HQ.out] at HE HQl Hs2
                    simp only [HQ.out]
                    obtain ⟨KK, HKQ⟩ : ∃ K, Hid (Q.length = K) := ⟨_, rfl⟩
                    rw [HKQ.out] at HE HQl
                    simp only [HKQ.out]
                    have zg := HG.out.lt
                    have zl := HL8.out.lt
                    have zz := HZ.out.lt
                    have hB3 : Below wr.heap.size wr (wr.alloc (.cells #[.int .i64 z0, .int .i64 r] 45)) := by (repeat' (first | (with_reducible exact Below.refl _ _) | (with_reducible assumption) | (with_reducible refine Below.alloc ?_ ?_ _) | (with_reducible refine Below.drew ?_) | (with_reducible refine below_drewN ?_ _) | (with_reducible refine Below.setCell ?_ ?_ _) | (with_reducible refine Below.trans ?_ (Below.mono (by assumption) ?_)) | (first | omega | (simp only [World.size_alloc, World.size_setCell, World.size_drew]; omega) | (simp; omega) | (simp; done))))
                    have hown2 := own_below HE.out hB3
                    have hnew : RdE (wr.alloc (.cells #[.int .i64 z0, .int .i64 r] 45)) (some ⟨wr.heap.size, 0, none⟩) [(z0, r)] := blkE_rd (t := 45) (es := [(z0, r)]) (Blk.new' (n := wr.heap.size) _ rfl)
                    have hql := HQl.out
                    clear hin3 hbu hn3
                    go_wp2_with (first
                      | (at_builtin; refine wpList_appendE rfl rfl w.heap.size _ KK Q rfl hown2 wr.heap.size 0 1 1 [(z0, r)] rfl rfl hnew (by omega) (by omega) (by simp; omega) ?_))
                    intro v3 w3 hown3 hfr3 hgr3
                    have Hb3 : Hid (Below w.heap.size w w3) := hfr3 w.heap.size w (Nat.le_refl _) (Hbel.out.trans (hB3.mono hsz))
                    have HI3 := Lib.hid (own_same (own_below HI.out hB3) fun t cs ht hB => hB.grown' hown2 hgr3 (by rw [ht]; decide))
                    have HU3 := Lib.hid (own_same (own_below HUo.out hB3) fun t cs ht hB => hB.grown' hown2 hgr3 (by rw [ht]; decide))
                    have HL3 := Lib.hid ((HL8.out.below hB3 zl).grown' hown2 hgr3 (by decide))
                    have HG3 := Lib.hid ((HG.out.below hB3 zg).grown' hown2 hgr3 (by decide))
                    have HZ3 := Lib.hid ((HZ.out.below hB3 zz).grown' hown2 hgr3 (by decide))
                    obtain ⟨g3, c3, rfl, _, _⟩ := own_someI hown3 (by omega)
                    have HE3 : Hid (w3.ownsRow w.heap.size 45 2 (.slice (some ⟨g3, 0, none⟩) (KK + 1) c3) (P ++ ts1 T l (U.take (k + 1))).length (cE (P ++ ts1 T l (U.take (k + 1))))) := by
                      show World.ownsRow _ _ _ _ _ _ _
                      rw [Hs2.out, List.length_append, HKQ.out]
                      exact hown3
                    clear hown3 hfr3 hgr3 hown2 hnew hB3 HE HI HUo HL8 HG HZ Hbel d1 d2 hql
                    go_wp2
                    exact ⟨⟨k + 1, by omega, by go_num, HE3, HI3, HU3, HL3, HG3, HZ3, Hb3⟩, by simp [intOf]; omega⟩
                · obtain rfl : k = 3 := by omega
                  have hfull : U.take 3 = U := List.take_of_length_le (by rw [HUl.out]; exact Nat.le_refl _)
                  rw [hfull, ← HtE.out] at HE
                  simp only [hfull, ← HtE.out]
                  obtain ⟨KK, HKQ⟩ : ∃ K, Hid ((tsL T l es ([a, b, d].take (i + 1))).length = K) := ⟨_, rfl⟩
                  simp only [HKQ.out]
                  have HE2 : Hid (wr.ownsRow w.heap.size 45 2 (.slice A9 KK c9) (tsL T l es ([a, b, d].take (i + 1))).length (cE (tsL T l es ([a, b, d].take (i + 1))))) := by
                    have h := HE.out
                    rw [← HKQ.out]
                    exact h
                  clear HE
                  go_wp2
                  exact ⟨⟨i + 1, by omega, by go_num, HE2, HI, HL8, HG, HZ, Hbel⟩, by simp [intOf]; omega⟩
            · obtain rfl : i = 3 := by omega
              have hfull : [a, b, d].take 3 = [a, b, d] := rfl
              rw [hfull] at HE
              have cm := C9.out A7 c7 wr (own_rdE HE.out)
              obtain ⟨K, HKK⟩ : ∃ K, Hid ((tsL T l es [a, b, d]).length = K) := ⟨_, rfl⟩
              simp only [hfull, HKK.out]
              rw [HKK.out] at cm
              have k0 := HG.out.cellAt 0 _ rfl
              go_wp2_with fail
              refine cm.mono ?_
              rintro e w4 ⟨A3, c3, rfl, hF, hb4⟩
              have HZ4 := Lib.hid (HZ.out.below hb4 HZ.out.lt)
              have x0 := HZ4.out.cellAt 0 _ rfl
              have x1 : (w4.setCell ⟨w.heap.size + 1, 0, none⟩ (.int .i64 (n - 2))).cell? ⟨w.heap.size + 1, 1, none⟩ = some (.slice none 0 0) := (sc_other (by simp)).trans (HZ4.out.cellAt 1 _ rfl)
              have f0 := HZ4.out.frozen 0
              have f1 := HZ4.out.frozen 1
              have HF := Lib.hid hF
              have zz := HZ.out.lt
              have Hb4 : Hid (Below w.heap.size w w4) := Hbel.out.trans (hb4.mono (by omega))
              clear hF hb4 cm HG HZ Hbel k0 HE HI HL8
              go_wp2
              refine ret_cell_tmp Try.results12 Try.underlying28 rfl (by kernel_rfl) rfl ((HZ4.out.set_ 0 (.int .i64 (n - 2))).set_ 1 (.slice A3 K c3)) rfl rfl ⟨⟨A3, c3, ?_, FrE.mono (n0 := wr.heap.size) ?_ (by omega)⟩, (Hb4.out.setCell (by show w.heap.size ≤ w.heap.size + 1; omega) _).setCell (by show w.heap.size ≤ w.heap.size + 1; omega) _⟩
              · rw [madeE_len, HKK.out]; rfl
              · exact HF.out.away (((Only.refl _ _).set 0 _).set 1 _ : Only (some ⟨w.heap.size + 1, 0, none⟩) w4 _) zz
end Go.Proofs.Ytjgmoffkecnmcaa
