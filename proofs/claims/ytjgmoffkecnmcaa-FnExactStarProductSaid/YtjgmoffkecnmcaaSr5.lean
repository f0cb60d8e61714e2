/- The reference's StarProduct: the graph. No statement of the program is proved here. -/
import Derived.Test.YtjgmoffkecnmcaaSr1
import Derived.Test.YtjgmoffkecnmcaaOv4
import Derived.Test.YtjgmoffkecnmcaaSr4
namespace Go.Proofs.Ytjgmoffkecnmcaa
open Go.RowKit
set_option linter.unusedSimpArgs false
set_option linter.unusedVariables false
set_option maxRecDepth 20000

set_option maxHeartbeats 16000000 in
/-- The graph. -/
theorem specStar_yes (N : Nat) (A : Option Addr) (c : Nat) (es : List (Int × Int)) (v : Nat) (P : Nat) (B : Option Addr) (d : Nat) (hs : List (Int × Int)) (x : Nat) (w : World) (hl : es.length ≤ 1000) (hl2 : hs.length ≤ 1000) (hr : RdE w A es) (hr2 : RdE w B hs) (h1 : Hid (isGraphB N es = true)) (h2 : Hid (isGraphB P hs = true)) (h3 : Hid ([(v : Int)].all (fun v => inB v 0 ((N : Int) - 1)) = true)) (h4 : Hid ([(x : Int)].all (fun v => inB v 0 ((P : Int) - 1)) = true)) (hn2 : N ≠ 2) (hm2 : P ≠ 2) (h20 : (N : Int) + P - 2 ≤ 20) :
    Calls Try.prog 6 #[.agg #[.int .i64 N, .slice A es.length c], .int .i64 v, .agg #[.int .i64 P, .slice B hs.length d], .int .i64 x] w fun e w' => RetG w' w.heap.size e ((N : Int) + P - 2) (madeE (starL N es v hs x 3)) 0 ∧ Below w.heap.size w w' := by
  have hn := isGraphB_n h1.out
  have hm := isGraphB_n h2.out
  have hv : inB (v : Int) 0 ((N : Int) - 1) = true := by simpa using h3.out
  have hx : inB (x : Int) 0 ((P : Int) - 1) = true := by simpa using h4.out
  have hvb := inB_true.1 hv
  have hxb := inB_true.1 hx
  have HNP : Hid (v < N ∧ x < P ∧ 2 ≤ N ∧ N ≤ 20 ∧ P ≤ 20) := by show _ ∧ _; omega
  have g1 : ((N : Int) == 2) = false := by simp; omega
  have g2 : ((P : Int) == 2) = false := by simp; omega
  have p1 : wrap64 ((N : Int) + P) = (N : Int) + P := wrap64_small (by omega) (by omega)
  have p2 : wrap64 ((N : Int) + P - 2) = (N : Int) + P - 2 := wrap64_small (by omega) (by omega)
  have p3 : wrap64 ((N : Int) - 1) = (N : Int) - 1 := wrap64_small (by omega) (by omega)
  have g3 : decide ((N : Int) + P - 2 > 20) = false := by simp; omega
  have hin1 := isGraphB_in h1.out
  have hin2 := isGraphB_in h2.out
  rw [Int.toNat_natCast] at hin1 hin2
  obtain ⟨ht1, he1, hu⟩ := ends_three h1.out hv
  obtain ⟨ht2, he2, hy⟩ := ends_three h2.out hx
  have C1 := Lib.hid fun W (hW : Below w.heap.size w W) => l01Is_b N A c es W true h1 (by omega) (hr.below hW)
  have C2 := Lib.hid fun W (hW : Below w.heap.size w W) => l01Is_b P B d hs W true h2 (by omega) (hr2.below hW)
  have c3 := fun W G (hW : Below w.heap.size w W) (hG : RdI W G [(v : Int)]) => l06Vertices_b N A c es G 1 [(v : Int)] W true true h1 h3 (by omega) (by simp) (hr.below hW) hG
  have c4 := fun W G (hW : Below w.heap.size w W) (hG : RdI W G [(x : Int)]) => l06Vertices_b P B d hs G 1 [(x : Int)] W true true h2 h4 (by omega) (by simp) (hr2.below hW) hG
  rw [show gcode true true = 0 from rfl] at c3 c4
  have c5 := fun W G (hW : Below w.heap.size w W) (hG : RdI W G [(v : Int)]) => l06Without_b N A c es 0 G 1 [(v : Int)] W hl (by omega) (by omega) (by simp) (by simp) hin1 (hr.below hW) hG
  have c6 := fun W G (hW : Below w.heap.size w W) (hG : RdI W G [(x : Int)]) => l06Without_b P B d hs ((N : Int) - 1) G 1 [(x : Int)] W hl2 (by omega) (by omega) (by simp) (by simp) hin2 (hr2.below hW) hG
  rw [setN_one] at c5 c6
  have c7 := fun W (hW : Below w.heap.size w W) => l06Ends_b N A c es N v (-1) W hl (by omega) (by omega) hin1 ht1 (hr.below hW)
  have c8 := fun W (hW : Below w.heap.size w W) => l06Ends_b P B d hs P x (-1) W hl2 (by omega) (by omega) hin2 ht2 (hr2.below hW)
  rw [endW_none, he1] at c7
  rw [endW_none, he2] at c8
  have c9 := fun Q cc (W : World) hQ => l01Made_b ((N : Int) + P - 2) Q cc (starL N es v hs x 3) W (by rw [starL_len]; have := starB_len N es v hs x; omega) hQ
  have Hl1 : Hid ((woL (2 ^ v) 0 es).length ≤ 1000) := by show _ ≤ _; have := woL_len (2 ^ v) 0 es; omega
  have Hl2 : Hid ((woL (2 ^ x) ((N : Int) - 1) hs).length ≤ 1000) := by show _ ≤ _; have := woL_len (2 ^ x) ((N : Int) - 1) hs; omega
  have Hbl : Hid ((starB N es v hs x).length = (woL (2 ^ v) 0 es).length + (woL (2 ^ x) ((N : Int) - 1) hs).length) := by show _ = _; rw [starB, List.length_append]
  have Hbl2 : Hid ((starB N es v hs x).length ≤ 2000) := by show _ ≤ _; have := starB_len N es v hs x; omega
  have Hu := Lib.hid hu
  have Hy := Lib.hid hy
  have He1 := Lib.hid he1
  have He2 := Lib.hid he2
  obtain ⟨T1, HT1⟩ : ∃ L, Hid ((woL (2 ^ v) 0 es).length = L) := ⟨_, rfl⟩
  obtain ⟨T2, HT2⟩ : ∃ L, Hid ((woL (2 ^ x) ((N : Int) - 1) hs).length = L) := ⟨_, rfl⟩
  rw [HT1.out] at c5 Hl1 Hbl
  rw [HT2.out] at c6 Hl2 Hbl
  obtain ⟨L, HL⟩ : ∃ L, Hid (es.length = L) := ⟨_, rfl⟩
  obtain ⟨M, HM⟩ : ∃ L, Hid (hs.length = L) := ⟨_, rfl⟩
  rw [HL.out] at C1 c3 c5 c7 ⊢
  rw [HM.out] at C2 c4 c6 c8 ⊢
  have C3 := Lib.hid c3
  have C4 := Lib.hid c4
  have C5 := Lib.hid c5
  have C6 := Lib.hid c6
  have C7 := Lib.hid c7
  have C8 := Lib.hid c8
  have C9 := Lib.hid c9
  clear c3 c4 c5 c6 c7 c8 c9 hr hr2 h1 h2 h3 h4 hn2 hm2 h20 hn hm hv hx hvb hxb hin1 hin2 ht1 ht2 he1 he2 hu hy hl hl2
  go_enter Try.func6, Try.ntmps6
  go_wp2_with fail
  refine (C1.out (((w.alloc (.cells #[.int .i64 (N : Int), .slice A L c] 28)).alloc (.cells #[.int .i64 (P : Int), .slice B M d] 28)).alloc (.cells #[.int .i64 0, .slice none 0 0] 28)) (by (repeat' (first | (with_reducible exact Below.refl _ _) | (with_reducible assumption) | (with_reducible refine Below.alloc ?_ ?_ _) | (with_reducible refine Below.drew ?_) | (with_reducible refine below_drewN ?_ _) | (with_reducible refine Below.setCell ?_ ?_ _) | (with_reducible refine Below.trans ?_ (Below.mono (by assumption) ?_)) | (first | omega | (simp only [World.size_alloc, World.size_setCell, World.size_drew]; omega) | (simp; omega) | (simp; done)))))).mono ?_
  rintro e w1 ⟨rfl, hb1⟩
  have KG1 := Lib.hid (((((Blk.new w _ _).alloc _).alloc _).below hb1 (by simp <;> omega)) : Blk w1 w.heap.size 28 #[.int .i64 (N : Int), .slice A L c])
  have KH1 := Lib.hid ((((Blk.new' (n := w.heap.size + 1) _ (by simp)).alloc _).below hb1 (by simp)) : Blk w1 (w.heap.size + 1) 28 #[.int .i64 (P : Int), .slice B M d])
  have HZ1 := Lib.hid (((Blk.new' (n := w.heap.size + 2) _ (by simp)).below hb1 (by simp)) : Blk w1 (w.heap.size + 2) 28 #[.int .i64 0, .slice none 0 0])
  have Hb1 : Hid (Below w.heap.size w w1) := by show Below _ _ _; exact Below.trans (b := (((w.alloc (.cells #[.int .i64 (N : Int), .slice A L c] 28)).alloc (.cells #[.int .i64 (P : Int), .slice B M d] 28)).alloc (.cells #[.int .i64 0, .slice none 0 0] 28))) (by (repeat' (first | (with_reducible exact Below.refl _ _) | (with_reducible assumption) | (with_reducible refine Below.alloc ?_ ?_ _) | (with_reducible refine Below.drew ?_) | (with_reducible refine below_drewN ?_ _) | (with_reducible refine Below.setCell ?_ ?_ _) | (with_reducible refine Below.trans ?_ (Below.mono (by assumption) ?_)) | (first | omega | (simp only [World.size_alloc, World.size_setCell, World.size_drew]; omega) | (simp; omega) | (simp; done))))) (hb1.mono (by simp <;> omega))
  have k0 := KG1.out.cellAt 0 _ rfl
  have k1 := KG1.out.cellAt 1 _ rfl
  have k2 := KH1.out.cellAt 0 _ rfl
  have k3 := KH1.out.cellAt 1 _ rfl
  have z9 := HZ1.out.lt
  clear hb1
  go_wp2_with fail
  refine (C2.out w1 Hb1.out).mono ?_
  rintro e w2 ⟨rfl, hb2⟩
  have hbb2 := hb2
  have KG2 := Lib.hid (KG1.out.below hbb2 (by have := HZ1.out.lt; omega))
  have KH2 := Lib.hid (KH1.out.below hbb2 (by have := HZ1.out.lt; omega))
  have HZ2 := Lib.hid (HZ1.out.below hbb2 HZ1.out.lt)
  have Hb2 : Hid (Below w.heap.size w w2) := Hb1.out.trans (hbb2.mono (by have := HZ1.out.lt; omega))
  clear k0 k1 k2 k3 z9 hb2 hbb2 KG1 KH1 HZ1 Hb1
  have k0 := KG2.out.cellAt 0 _ rfl
  have k1 := KG2.out.cellAt 1 _ rfl
  have k2 := KH2.out.cellAt 0 _ rfl
  have k3 := KH2.out.cellAt 1 _ rfl
  have z9 := HZ2.out.lt
  go_wp2_with fail
  refine (C3.out (w2.alloc (.cells #[.int .i64 (v : Int)] 2)) (some ⟨w2.heap.size, 0, none⟩) (Hb2.out.alloc (by omega) _) (blkI_rd (t := 2) (xs := [(v : Int)]) (Blk.new' _ rfl))).mono ?_
  rintro e w3 ⟨rfl, hb3⟩
  have hbb3 : Below w2.heap.size w2 w3 := (Below.alloc (Below.refl _ _) (Nat.le_refl _) _).trans (hb3.mono (by simp))
  have KG3 := Lib.hid (KG2.out.below hbb3 (by have := HZ2.out.lt; omega))
  have KH3 := Lib.hid (KH2.out.below hbb3 (by have := HZ2.out.lt; omega))
  have HZ3 := Lib.hid (HZ2.out.below hbb3 HZ2.out.lt)
  have Hb3 : Hid (Below w.heap.size w w3) := Hb2.out.trans (hbb3.mono (by have := HZ2.out.lt; omega))
  clear k0 k1 k2 k3 z9 hb3 hbb3 KG2 KH2 HZ2 Hb2
  have k0 := KG3.out.cellAt 0 _ rfl
  have k1 := KG3.out.cellAt 1 _ rfl
  have k2 := KH3.out.cellAt 0 _ rfl
  have k3 := KH3.out.cellAt 1 _ rfl
  have z9 := HZ3.out.lt
  go_wp2_with fail
  refine (C4.out (w3.alloc (.cells #[.int .i64 (x : Int)] 2)) (some ⟨w3.heap.size, 0, none⟩) (Hb3.out.alloc (by omega) _) (blkI_rd (t := 2) (xs := [(x : Int)]) (Blk.new' _ rfl))).mono ?_
  rintro e w4 ⟨rfl, hb4⟩
  have hbb4 : Below w3.heap.size w3 w4 := (Below.alloc (Below.refl _ _) (Nat.le_refl _) _).trans (hb4.mono (by simp))
  have KG4 := Lib.hid (KG3.out.below hbb4 (by have := HZ3.out.lt; omega))
  have KH4 := Lib.hid (KH3.out.below hbb4 (by have := HZ3.out.lt; omega))
  have HZ4 := Lib.hid (HZ3.out.below hbb4 HZ3.out.lt)
  have Hb4 : Hid (Below w.heap.size w w4) := Hb3.out.trans (hbb4.mono (by have := HZ3.out.lt; omega))
  clear k0 k1 k2 k3 z9 hb4 hbb4 KG3 KH3 HZ3 Hb3
  have k0 := KG4.out.cellAt 0 _ rfl
  have k1 := KG4.out.cellAt 1 _ rfl
  have k2 := KH4.out.cellAt 0 _ rfl
  have k3 := KH4.out.cellAt 1 _ rfl
  have z9 := HZ4.out.lt
  go_wp2_with fail
  refine (C5.out (w4.alloc (.cells #[.int .i64 (v : Int)] 2)) (some ⟨w4.heap.size, 0, none⟩) (Hb4.out.alloc (by omega) _) (blkI_rd (t := 2) (xs := [(v : Int)]) (Blk.new' _ rfl))).mono ?_
  rintro e w5 ⟨ge5, ce5, gi5, ci5, rfl, hE5, hI5, hb5⟩
  have hbb5 : Below w4.heap.size w4 w5 := (Below.alloc (Below.refl _ _) (Nat.le_refl _) _).trans (hb5.mono (by simp))
  have HE5 := Lib.hid (own_mono hE5 (show w.heap.size ≤ _ by simp; have := HZ4.out.lt; omega))
  have HI5 := Lib.hid (own_mono hI5 (show w.heap.size ≤ _ by simp; have := HZ4.out.lt; omega))
  clear hE5 hI5
  have KG5 := Lib.hid (KG4.out.below hbb5 (by have := HZ4.out.lt; omega))
  have KH5 := Lib.hid (KH4.out.below hbb5 (by have := HZ4.out.lt; omega))
  have HZ5 := Lib.hid (HZ4.out.below hbb5 HZ4.out.lt)
  have Hb5 : Hid (Below w.heap.size w w5) := Hb4.out.trans (hbb5.mono (by have := HZ4.out.lt; omega))
  clear k0 k1 k2 k3 z9 hb5 hbb5 KG4 KH4 HZ4 Hb4
  have k0 := KG5.out.cellAt 0 _ rfl
  have k1 := KG5.out.cellAt 1 _ rfl
  have k2 := KH5.out.cellAt 0 _ rfl
  have k3 := KH5.out.cellAt 1 _ rfl
  have z9 := HZ5.out.lt
  go_wp2_with fail
  refine (C6.out (w5.alloc (.cells #[.int .i64 (x : Int)] 2)) (some ⟨w5.heap.size, 0, none⟩) (Hb5.out.alloc (by omega) _) (blkI_rd (t := 2) (xs := [(x : Int)]) (Blk.new' _ rfl))).mono ?_
  rintro e w6 ⟨ge6, ce6, gi6, ci6, rfl, hE6, hI6, hb6⟩
  have hbb6 : Below w5.heap.size w5 w6 := (Below.alloc (Below.refl _ _) (Nat.le_refl _) _).trans (hb6.mono (by simp))
  have HE6 := Lib.hid (own_mono hE6 (show w.heap.size ≤ _ by simp; have := HZ5.out.lt; omega))
  have HI6 := Lib.hid (own_mono hI6 (show w.heap.size ≤ _ by simp; have := HZ5.out.lt; omega))
  clear hE6 hI6
  have KG6 := Lib.hid (KG5.out.below hbb6 (by have := HZ5.out.lt; omega))
  have KH6 := Lib.hid (KH5.out.below hbb6 (by have := HZ5.out.lt; omega))
  have HZ6 := Lib.hid (HZ5.out.below hbb6 HZ5.out.lt)
  have Hb6 : Hid (Below w.heap.size w w6) := Hb5.out.trans (hbb6.mono (by have := HZ5.out.lt; omega))
  have HE56 := Lib.hid (own_below HE5.out hbb6)
  have HI56 := Lib.hid (own_below HI5.out hbb6)
  clear HE5 HI5
  clear k0 k1 k2 k3 z9 hb6 hbb6 KG5 KH5 HZ5 Hb5
  have k0 := KG6.out.cellAt 0 _ rfl
  have k1 := KG6.out.cellAt 1 _ rfl
  have k2 := KH6.out.cellAt 0 _ rfl
  have k3 := KH6.out.cellAt 1 _ rfl
  have z9 := HZ6.out.lt
  have hsz6 : w.heap.size ≤ w6.heap.size := Hb6.out.size
  have hl1 := Hl1.out
  have hl2 := Hl2.out
  go_wp2_with (first
    | (at_builtin; refine wpList_appendE rfl rfl w.heap.size _ T1 (woL (2 ^ v) 0 es) rfl HE56.out ge6 0 T2 ce6 (woL (2 ^ x) ((N : Int) - 1) hs) rfl HT2.out (own_rdE HE6.out) (by omega) (by omega) hsz6 ?_))
  intro v3 w7 hown7 hfr7 hgr7
  have Hb7 : Hid (Below w.heap.size w w7) := hfr7 w.heap.size w (Nat.le_refl _) Hb6.out
  have KG7 := Lib.hid (KG6.out.grown' HE56.out hgr7 (by decide))
  have KH7 := Lib.hid (KH6.out.grown' HE56.out hgr7 (by decide))
  have HZ7 := Lib.hid (HZ6.out.grown' HE56.out hgr7 (by decide))
  have HI57 := Lib.hid (own_same HI56.out fun t cs ht hB => hB.grown' HE56.out hgr7 (by rw [ht]; decide))
  have HI67 := Lib.hid (own_same HI6.out fun t cs ht hB => hB.grown' HE56.out hgr7 (by rw [ht]; decide))
  obtain ⟨A7, c7, rfl⟩ := own_form hown7
  have HE7 : Hid (w7.ownsRow w.heap.size 45 2 (.slice A7 (T1 + T2) c7) (starL N es v hs x 0).length (cE (starL N es v hs x 0))) := by
    show World.ownsRow _ _ _ _ _ _ _
    rw [starL_zero, Hbl.out]
    exact hown7
  have HT : Hid (T1 + T2 = (starL N es v hs x 0).length) := by show _ = _; rw [starL_zero, Hbl.out]
  have z7 := HZ7.out.lt
  have b7 := Hb7.out
  clear k0 k1 k2 k3 z9 KG6 KH6 HZ6 Hb6 HE56 HI56 HE6 HI6 hown7 hfr7 hgr7 hsz6 C1 C2 C3 C4 C5 C6 hl1 hl2
  have k0 := KG7.out.cellAt 0 _ rfl
  have k1 := KG7.out.cellAt 1 _ rfl
  have k2 := KH7.out.cellAt 0 _ rfl
  have k3 := KH7.out.cellAt 1 _ rfl
  go_wp2_with fail
  refine wp_region_noPanic ?_
  refine wp_region_held_drew (S := (fun w' => w'.cell? ⟨w.heap.size, 0, none⟩ = some (.int .i64 (N : Int)) ∧ w'.cell? ⟨w.heap.size, 1, none⟩ = some (.slice A L c) ∧ w'.cell? ⟨w.heap.size + 1, 0, none⟩ = some (.int .i64 (P : Int)) ∧ w'.cell? ⟨w.heap.size + 1, 1, none⟩ = some (.slice B M d))) (by kernel_rfl) ?_ (fun hHeld => ?_)
  · (try dsimp only); (first | exact hS3 | exact hS2 | exact ⟨k0, k1, k2, k3⟩ | assumption | (first | go_keep | (obtain ⟨hq, _⟩ := bcell ‹Below _ _ _›; (repeat' apply And.intro) <;> (rw [hq _ _ (by first | assumption | omega | (simp; done) | (simp; omega) | (simp; assumption))] <;> (first | assumption | (simp [*]; done))))))
  refine wpAnyH_take_d (i := 0) (d := some 80) (v := ?v1) rfl rfl (by kernel_rfl) (by kernel_rfl) (by kernel_rfl) (fun _ _ _ h => h) (Or.inl ⟨by kernel_rfl, ?y1⟩) (by assumption) ?_
  case y1 => (intro w' hSw; (try dsimp only at hSw); go_simp; try with_reducible rfl)
  try simp only [Act.put, List.setIfInBounds_toArray, List.set_cons_zero, List.set_cons_succ]
  refine wpAnyH_take_d (i := 1) (d := some 81) (v := ?v2) rfl rfl (by kernel_rfl) (by kernel_rfl) (by kernel_rfl) (fun _ _ _ h => h) (Or.inl ⟨by kernel_rfl, ?y2⟩) (by assumption) ?_
  case y2 => (intro w' hSw; (try dsimp only at hSw); go_simp; try with_reducible rfl)
  try simp only [Act.put, List.setIfInBounds_toArray, List.set_cons_zero, List.set_cons_succ]
  refine wpAnyH_take_d (i := 3) (d := some 83) (v := ?v3) rfl rfl (by kernel_rfl) (by kernel_rfl) (by kernel_rfl) (fun _ _ _ h => h) (Or.inl ⟨by kernel_rfl, ?y3⟩) (by assumption) ?_
  case y3 => (intro w' hSw; (try dsimp only at hSw); go_simp; try with_reducible rfl)
  try simp only [Act.put, List.setIfInBounds_toArray, List.set_cons_zero, List.set_cons_succ]
  refine wpAnyH_take_d (i := 4) (d := some 84) (v := ?v4) rfl rfl (by kernel_rfl) (by kernel_rfl) (by kernel_rfl) (fun _ _ _ h => h) (Or.inl ⟨by kernel_rfl, ?y4⟩) (by assumption) ?_
  case y4 => (intro w' hSw; (try dsimp only at hSw); go_simp; try with_reducible rfl)
  try simp only [Act.put, List.setIfInBounds_toArray, List.set_cons_zero, List.set_cons_succ]
  refine wpAnyH_ready (rs := [2]) (by kernel_rfl) (by simp) ?_
  refine AllReadyH.cons rfl (fun K hK => ?_) AllReadyH.nil
  go_simp
  refine (C7.out _ (by (repeat' (first | (with_reducible exact Below.refl _ _) | (with_reducible assumption) | (with_reducible refine Below.alloc ?_ ?_ _) | (with_reducible refine Below.drew ?_) | (with_reducible refine below_drewN ?_ _) | (with_reducible refine Below.setCell ?_ ?_ _) | (with_reducible refine Below.trans ?_ (Below.mono (by assumption) ?_)) | (first | omega | (simp only [World.size_alloc, World.size_setCell, World.size_drew]; omega) | (simp; omega) | (simp; done)))))).mono ?_; rintro e w8 ⟨A8, c8, rfl, hown8, hb8⟩; have bb8 : Below w7.heap.size w7 w8 := (Below.drew (Below.refl _ _)).trans hb8; have b8 : Below w.heap.size w w8 := b7.trans (bb8.mono b7.size); have hS2 : w8.cell? ⟨w.heap.size, 0, none⟩ = some (.int .i64 (N : Int)) ∧ w8.cell? ⟨w.heap.size, 1, none⟩ = some (.slice A L c) ∧ w8.cell? ⟨w.heap.size + 1, 0, none⟩ = some (.int .i64 (P : Int)) ∧ w8.cell? ⟨w.heap.size + 1, 1, none⟩ = some (.slice B M d) := ⟨(KG7.out.below bb8 (by omega)).cellAt 0 _ rfl, (KG7.out.below bb8 (by omega)).cellAt 1 _ rfl, (KH7.out.below bb8 (by omega)).cellAt 0 _ rfl, (KH7.out.below bb8 (by omega)).cellAt 1 _ rfl⟩
  refine hK.out _ _ ?s5 (fun hHeld5 => ?_)
  case s5 => ((try dsimp only); (first | exact hS3 | exact hS2 | exact ⟨k0, k1, k2, k3⟩ | assumption | (first | go_keep | (obtain ⟨hq, _⟩ := bcell ‹Below _ _ _›; (repeat' apply And.intro) <;> (rw [hq _ _ (by first | assumption | omega | (simp; done) | (simp; omega) | (simp; assumption))] <;> (first | assumption | (simp [*]; done)))))))
  clear hK K hHeld
  have hHeld := hHeld5; clear hHeld5
  try simp only [Act.put, List.setIfInBounds_toArray, List.set_cons_zero, List.set_cons_succ]
  refine wpAnyH_ready (rs := [5]) (by kernel_rfl) (by simp) ?_
  refine AllReadyH.cons rfl (fun K hK => ?_) AllReadyH.nil
  go_simp
  refine (C8.out _ b8).mono ?_; rintro e w9 ⟨A9, c9, rfl, hown9, hb9⟩; have bb9 : Below w7.heap.size w7 w9 := bb8.trans (hb9.mono bb8.size); have hS3 : w9.cell? ⟨w.heap.size, 0, none⟩ = some (.int .i64 (N : Int)) ∧ w9.cell? ⟨w.heap.size, 1, none⟩ = some (.slice A L c) ∧ w9.cell? ⟨w.heap.size + 1, 0, none⟩ = some (.int .i64 (P : Int)) ∧ w9.cell? ⟨w.heap.size + 1, 1, none⟩ = some (.slice B M d) := ⟨(KG7.out.below bb9 (by omega)).cellAt 0 _ rfl, (KG7.out.below bb9 (by omega)).cellAt 1 _ rfl, (KH7.out.below bb9 (by omega)).cellAt 0 _ rfl, (KH7.out.below bb9 (by omega)).cellAt 1 _ rfl⟩
  refine hK.out _ _ ?s6 (fun hHeld6 => ?_)
  case s6 => ((try dsimp only); (first | exact hS3 | exact hS2 | exact ⟨k0, k1, k2, k3⟩ | assumption | (first | go_keep | (obtain ⟨hq, _⟩ := bcell ‹Below _ _ _›; (repeat' apply And.intro) <;> (rw [hq _ _ (by first | assumption | omega | (simp; done) | (simp; omega) | (simp; assumption))] <;> (first | assumption | (simp [*]; done)))))))
  clear hK K hHeld
  have hHeld := hHeld6; clear hHeld6
  try simp only [Act.put, List.setIfInBounds_toArray, List.set_cons_zero, List.set_cons_succ]
  refine wpAnyH_take_d (i := 6) (d := some 14) (v := ?v7) rfl rfl (by kernel_rfl) (by kernel_rfl) (by kernel_rfl) (fun _ _ _ h => h) (Or.inl ⟨by kernel_rfl, ?y7⟩) (by assumption) ?_
  case y7 => (intro w' hSw; (try dsimp only at hSw); go_simp; try with_reducible rfl)
  try simp only [Act.put, List.setIfInBounds_toArray, List.set_cons_zero, List.set_cons_succ]
  refine wpAnyH_take_d (i := 7) (d := some 15) (v := ?v8) rfl rfl (by kernel_rfl) (by kernel_rfl) (by kernel_rfl) (fun _ _ _ h => h) (Or.inl ⟨by kernel_rfl, ?y8⟩) (by assumption) ?_
  case y8 => (intro w' hSw; (try dsimp only at hSw); go_simp; try with_reducible rfl)
  try simp only [Act.put, List.setIfInBounds_toArray, List.set_cons_zero, List.set_cons_succ]
  refine wpAnyH_done (by kernel_rfl) ?_ _
  refine NoPanic.normal ?_
  have Hb9 : Hid (Below w.heap.size w w9) := b7.trans (bb9.mono b7.size)
  have KG9 := Lib.hid (KG7.out.below bb9 (by omega))
  have KH9 := Lib.hid (KH7.out.below bb9 (by omega))
  have HZ9 := Lib.hid (HZ7.out.below bb9 z7)
  have HA9 := Lib.hid (own_below HI57.out bb9)
  have HB9 := Lib.hid (own_below HI67.out bb9)
  have HE9 := Lib.hid (own_below HE7.out bb9)
  have HU9 := Lib.hid (own_mono (own_below hown8 hb9) b7.size)
  have HW9 := Lib.hid (own_mono hown9 b8.size)
  clear hHeld hS2 hS3 hb8 hb9 bb8 bb9 b8 hown8 hown9 HI57 HI67 HE7 KG7 KH7 HZ7 Hb7 k0 k1 k2 k3 b7 z7 C7 C8
  obtain ⟨g8, c8', hv8, _, _⟩ := own_someI HU9.out (by omega)
  injection hv8 with hv5 _ hv6
  subst hv5; subst hv6
  obtain ⟨g9, c9', hv9, _, _⟩ := own_someI HW9.out (by omega)
  injection hv9 with hv5 _ hv6
  subst hv5; subst hv6
  rw [HT.out] at HE9
  simp only [HT.out]
  go_wp2_with fail
  go_loopw [10, 16] (fun s i wr => ∃ k : Nat, k ≤ 3 ∧ i = .int .i64 k ∧ Hid (wr.ownsRow w.heap.size 45 2 s (starL N es v hs x k).length (cE (starL N es v hs x k))) ∧ Hid (wr.ownsRow w.heap.size 2 1 (.slice (some ⟨gi5, 0, none⟩) N ci5) N (cI (numL (2 ^ v) 0 N))) ∧ Hid (wr.ownsRow w.heap.size 2 1 (.slice (some ⟨gi6, 0, none⟩) P ci6) P (cI (numL (2 ^ x) ((N : Int) - 1) P))) ∧ Hid (wr.ownsRow w.heap.size 2 1 (.slice (some ⟨g8, 0, none⟩) 3 c8) 3 (cI (endsL es v))) ∧ Hid (wr.ownsRow w.heap.size 2 1 (.slice (some ⟨g9, 0, none⟩) 3 c9) 3 (cI (endsL hs x))) ∧ Hid (Blk wr w.heap.size 28 #[.int .i64 (N : Int), .slice A L c]) ∧ Hid (Blk wr (w.heap.size + 1) 28 #[.int .i64 (P : Int), .slice B M d]) ∧ Hid (Blk wr (w.heap.size + 2) 28 #[.int .i64 0, .slice none 0 0]) ∧ Hid (Below w.heap.size w wr)) (fun _ i _ => 3 - (intOf i).toNat)
  case atStart => exact ⟨0, by omega, rfl, HE9, HA9, HB9, HU9, HW9, KG9, KH9, HZ9, Hb9⟩
  case round =>
    clear HE9 HA9 HB9 HU9 HW9 KG9 KH9 HZ9 Hb9
    obtain ⟨k, hk, rfl, HE, HA, HB, HU, HW, KG, KH, HZ, Hbel⟩ := hrel
    obtain ⟨A7, c7, rfl⟩ := own_form HE.out
    have hsz := Hbel.out.size
    by_cases hlt : k < 3
    · have hu := Hu.out k hlt
      have hy := Hy.out k hlt
      obtain ⟨uu, Huu⟩ : ∃ a : Nat, Hid ((endsL es v).getD k 0 = a) := ⟨((endsL es v).getD k 0).toNat, by show _ = _; omega⟩
      obtain ⟨yy, Hyy⟩ : ∃ a : Nat, Hid ((endsL hs x).getD k 0 = a) := ⟨((endsL hs x).getD k 0).toNat, by show _ = _; omega⟩
      rw [Huu.out] at hu
      rw [Hyy.out] at hy
      have huN : uu < N := by omega
      have hyP : yy < P := by omega
      have huv : uu ≠ v := by omega
      have hyx : yy ≠ x := by omega
      obtain ⟨r1, Hr1⟩ : ∃ r : Int, Hid (frV (2 ^ v) 0 uu = r) := ⟨_, rfl⟩
      obtain ⟨r2, Hr2⟩ : ∃ r : Int, Hid (frV (2 ^ x) ((N : Int) - 1) yy = r) := ⟨_, rfl⟩
      have Hs : Hid (starL N es v hs x (k + 1) = starL N es v hs x k ++ [(r1, r2)]) := by
        show _ = _
        rw [starL_succ, Huu.out, Hyy.out, Int.toNat_natCast, Int.toNat_natCast, Hr1.out, Hr2.out]
      have d1 : wr.cell? ⟨g8, k, none⟩ = some (.int .i64 (uu : Int)) := by
        have h := own_cellI HU.out He1.out hlt
        rw [Huu.out] at h
        exact h
      have d2 : wr.cell? ⟨g9, k, none⟩ = some (.int .i64 (yy : Int)) := by
        have h := own_cellI HW.out He2.out hlt
        rw [Hyy.out] at h
        exact h
      have d3 : wr.cell? ⟨gi5, uu, none⟩ = some (.int .i64 r1) := by
        have h := own_cellI HA.out (numL_len _ _ _) huN
        rw [numL_getD huN, numV, pow_bit, if_neg (by simpa using huv), Hr1.out] at h
        exact h
      have d4 : wr.cell? ⟨gi6, yy, none⟩ = some (.int .i64 r2) := by
        have h := own_cellI HB.out (numL_len _ _ _) hyP
        rw [numL_getD hyP, numV, pow_bit, if_neg (by simpa using hyx), Hr2.out] at h
        exact h
      have HsL : Hid ((starL N es v hs x (k + 1)).length = (starL N es v hs x k).length + 1) := by show _ = _; rw [Hs.out, List.length_append]; rfl
      have HTl : Hid ((starL N es v hs x k).length ≤ 3000) := by show _ ≤ _; rw [starL_len]; have := Hbl2.out; omega
      obtain ⟨T, HTT⟩ : ∃ T, Hid ((starL N es v hs x k).length = T) := ⟨_, rfl⟩
      rw [HTT.out] at HE HTl
      simp only [HTT.out]
      obtain ⟨ek, ek2, ek3⟩ := idxF k 3 hlt
      obtain ⟨eu, eu2, eu3⟩ := idxF uu N huN
      obtain ⟨ey, ey2, ey3⟩ := idxF yy P hyP
      have q1 := (HU.out.lt g8 rfl).2
      have q2 := (HW.out.lt g9 rfl).2
      have q3 := (HA.out.lt gi5 rfl).2
      have q4 := (HB.out.lt gi6 rfl).2
      have z9 := HZ.out.lt
      have hB3 : Below wr.heap.size wr (wr.drew.alloc (.cells #[.int .i64 r1, .int .i64 r2] 45)) := by (repeat' (first | (with_reducible exact Below.refl _ _) | (with_reducible assumption) | (with_reducible refine Below.alloc ?_ ?_ _) | (with_reducible refine Below.drew ?_) | (with_reducible refine below_drewN ?_ _) | (with_reducible refine Below.setCell ?_ ?_ _) | (with_reducible refine Below.trans ?_ (Below.mono (by assumption) ?_)) | (first | omega | (simp only [World.size_alloc, World.size_setCell, World.size_drew]; omega) | (simp; omega) | (simp; done))))
      have hown2 := own_below HE.out hB3
      have hnew : RdE (wr.drew.alloc (.cells #[.int .i64 r1, .int .i64 r2] 45)) (some ⟨wr.heap.size, 0, none⟩) [(r1, r2)] := blkE_rd (t := 45) (es := [(r1, r2)]) (Blk.new' (n := wr.heap.size) _ (by simp))
      have hb9 : Below w.heap.size w (wr.drew.alloc (.cells #[.int .i64 r1, .int .i64 r2] 45)) := Hbel.out.trans (hB3.mono hsz)
      clear hu hy
      go_wp2
      refine wp_region_noPanic ?_
      refine wp_region_held_drew (S := (fun w' => w'.cell? ⟨g8, k, none⟩ = some (.int .i64 (uu : Int)) ∧ w'.cell? ⟨g9, k, none⟩ = some (.int .i64 (yy : Int)) ∧ w'.cell? ⟨gi5, uu, none⟩ = some (.int .i64 r1) ∧ w'.cell? ⟨gi6, yy, none⟩ = some (.int .i64 r2))) (by kernel_rfl) ?_ (fun hHeld => ?_)
      · (try dsimp only); (first | exact hS3 | exact hS2 | assumption | exact ⟨d1, d2, d3, d4⟩ | (first | go_keep | (obtain ⟨hq, _⟩ := bcell ‹Below _ _ _›; (repeat' apply And.intro) <;> (rw [hq _ _ (by first | assumption | omega | (simp; done) | (simp; omega) | (simp; assumption))] <;> (first | assumption | (simp [*]; done))))))
      refine wpAnyH_take_d (i := 0) (d := some 90) (v := ?v9) rfl rfl (by kernel_rfl) (by kernel_rfl) (by kernel_rfl) (fun _ _ _ h => h) (Or.inl ⟨by kernel_rfl, ?y9⟩) (by assumption) ?_
      case y9 => (intro w' hSw; (try dsimp only at hSw); go_simp; try with_reducible rfl)
      try simp only [Act.put, List.setIfInBounds_toArray, List.set_cons_zero, List.set_cons_succ]
      refine wpAnyH_take_d (i := 1) (d := some 91) (v := ?v10) rfl rfl (by kernel_rfl) (by kernel_rfl) (by kernel_rfl) (fun _ _ _ h => h) (Or.inl ⟨by kernel_rfl, ?y10⟩) (by assumption) ?_
      case y10 => (intro w' hSw; (try dsimp only at hSw); go_simp; try with_reducible rfl)
      try simp only [Act.put, List.setIfInBounds_toArray, List.set_cons_zero, List.set_cons_succ]
      refine wpAnyH_take_d (i := 2) (d := some 92) (v := ?v11) rfl rfl (by kernel_rfl) (by kernel_rfl) (by kernel_rfl) (fun _ _ _ h => h) (Or.inl ⟨by kernel_rfl, ?y11⟩) (by assumption) ?_
      case y11 => (intro w' hSw; (try dsimp only at hSw); go_simp; try with_reducible rfl)
      try simp only [Act.put, List.setIfInBounds_toArray, List.set_cons_zero, List.set_cons_succ]
      refine wpAnyH_take_d (i := 3) (d := some 93) (v := ?v12) rfl rfl (by kernel_rfl) (by kernel_rfl) (by kernel_rfl) (fun _ _ _ h => h) (Or.inl ⟨by kernel_rfl, ?y12⟩) (by assumption) ?_
      case y12 => (intro w' hSw; (try dsimp only at hSw); go_simp; try with_reducible rfl)
      try simp only [Act.put, List.setIfInBounds_toArray, List.set_cons_zero, List.set_cons_succ]
      refine wpAnyH_take_d (i := 4) (d := some 94) (v := ?v13) rfl rfl (by kernel_rfl) (by kernel_rfl) (by kernel_rfl) (fun _ _ _ h => h) (Or.inl ⟨by kernel_rfl, ?y13⟩) (by assumption) ?_
      case y13 => (intro w' hSw; (try dsimp only at hSw); go_simp; try with_reducible rfl)
      try simp only [Act.put, List.setIfInBounds_toArray, List.set_cons_zero, List.set_cons_succ]
      refine wpAnyH_take_d (i := 5) (d := some 95) (v := ?v14) rfl rfl (by kernel_rfl) (by kernel_rfl) (by kernel_rfl) (fun _ _ _ h => h) (Or.inl ⟨by kernel_rfl, ?y14⟩) (by assumption) ?_
      case y14 => (intro w' hSw; (try dsimp only at hSw); go_simp; try with_reducible rfl)
      try simp only [Act.put, List.setIfInBounds_toArray, List.set_cons_zero, List.set_cons_succ]
      refine wpAnyH_take_d (i := 6) (d := some 96) (v := ?v15) rfl rfl (by kernel_rfl) (by kernel_rfl) (by kernel_rfl) (fun _ _ _ h => h) (Or.inl ⟨by kernel_rfl, ?y15⟩) (by assumption) ?_
      case y15 => (intro w' hSw; (try dsimp only at hSw); go_simp; try with_reducible rfl)
      try simp only [Act.put, List.setIfInBounds_toArray, List.set_cons_zero, List.set_cons_succ]
      refine wpAnyH_take_d (i := 7) (d := some 97) (v := ?v16) rfl rfl (by kernel_rfl) (by kernel_rfl) (by kernel_rfl) (fun _ _ _ h => h) (Or.inl ⟨by kernel_rfl, ?y16⟩) (by assumption) ?_
      case y16 => (intro w' hSw; (try dsimp only at hSw); go_simp; try with_reducible rfl)
      try simp only [Act.put, List.setIfInBounds_toArray, List.set_cons_zero, List.set_cons_succ]
      refine wpAnyH_take_d (i := 8) (d := some 98) (v := ?v17) rfl rfl (by kernel_rfl) (by kernel_rfl) (by kernel_rfl) (fun _ _ _ h => h) (Or.inl ⟨by kernel_rfl, ?y17⟩) (by assumption) ?_
      case y17 => (intro w' hSw; (try dsimp only at hSw); go_simp; try with_reducible rfl)
      try simp only [Act.put, List.setIfInBounds_toArray, List.set_cons_zero, List.set_cons_succ]
      refine wpAnyH_take_d (i := 9) (d := some 99) (v := ?v18) rfl rfl (by kernel_rfl) (by kernel_rfl) (by kernel_rfl) (fun _ _ _ h => h) (Or.inl ⟨by kernel_rfl, ?y18⟩) (by assumption) ?_
      case y18 => (intro w' hSw; (try dsimp only at hSw); go_simp; try with_reducible rfl)
      try simp only [Act.put, List.setIfInBounds_toArray, List.set_cons_zero, List.set_cons_succ]
      refine wpAnyH_take_d (i := 10) (d := some 100) (v := ?v19) rfl rfl (by kernel_rfl) (by kernel_rfl) (by kernel_rfl) (fun _ _ _ h => h) (Or.inl ⟨by kernel_rfl, ?y19⟩) (by assumption) ?_
      case y19 => (intro w' hSw; (try dsimp only at hSw); go_simp; try with_reducible rfl)
      try simp only [Act.put, List.setIfInBounds_toArray, List.set_cons_zero, List.set_cons_succ]
      refine wpAnyH_take_d (i := 11) (d := some 101) (v := ?v20) rfl rfl (by kernel_rfl) (by kernel_rfl) (by kernel_rfl) (fun _ _ _ h => h) (Or.inl ⟨by kernel_rfl, ?y20⟩) (by assumption) ?_
      case y20 => (intro w' hSw; (try dsimp only at hSw); go_simp; try with_reducible rfl)
      try simp only [Act.put, List.setIfInBounds_toArray, List.set_cons_zero, List.set_cons_succ]
      refine wpAnyH_take_d (i := 12) (d := some 102) (v := ?v21) rfl rfl (by kernel_rfl) (by kernel_rfl) (by kernel_rfl) (fun _ _ _ h => h) (Or.inl ⟨by kernel_rfl, ?y21⟩) (by assumption) ?_
      case y21 => (intro w' hSw; (try dsimp only at hSw); go_simp; try with_reducible rfl)
      try simp only [Act.put, List.setIfInBounds_toArray, List.set_cons_zero, List.set_cons_succ]
      refine wpAnyH_take_d (i := 13) (d := some 103) (v := ?v22) rfl rfl (by kernel_rfl) (by kernel_rfl) (by kernel_rfl) (fun _ _ _ h => h) (Or.inl ⟨by kernel_rfl, ?y22⟩) (by assumption) ?_
      case y22 => (intro w' hSw; (try dsimp only at hSw); go_simp; try with_reducible rfl)
      try simp only [Act.put, List.setIfInBounds_toArray, List.set_cons_zero, List.set_cons_succ]
      refine wpAnyH_take_d (i := 14) (d := some 104) (v := ?v23) rfl rfl (by kernel_rfl) (by kernel_rfl) (by kernel_rfl) (fun _ _ _ h => h) (Or.inl ⟨by kernel_rfl, ?y23⟩) (by assumption) ?_
      case y23 => (intro w' hSw; (try dsimp only at hSw); go_simp; try with_reducible rfl)
      try simp only [Act.put, List.setIfInBounds_toArray, List.set_cons_zero, List.set_cons_succ]
      refine wpAnyH_take_d (i := 15) (d := some 105) (v := ?v24) rfl rfl (by kernel_rfl) (by kernel_rfl) (by kernel_rfl) (fun _ _ _ h => h) (Or.inl ⟨by kernel_rfl, ?y24⟩) (by assumption) ?_
      case y24 => (intro w' hSw; (try dsimp only at hSw); go_simp; try with_reducible rfl)
      try simp only [Act.put, List.setIfInBounds_toArray, List.set_cons_zero, List.set_cons_succ]
      have hS2 : (wr.drew.alloc (.cells #[.int .i64 r1, .int .i64 r2] 45)).cell? ⟨g8, k, none⟩ = some (.int .i64 (uu : Int)) ∧ (wr.drew.alloc (.cells #[.int .i64 r1, .int .i64 r2] 45)).cell? ⟨g9, k, none⟩ = some (.int .i64 (yy : Int)) ∧ (wr.drew.alloc (.cells #[.int .i64 r1, .int .i64 r2] 45)).cell? ⟨gi5, uu, none⟩ = some (.int .i64 r1) ∧ (wr.drew.alloc (.cells #[.int .i64 r1, .int .i64 r2] 45)).cell? ⟨gi6, yy, none⟩ = some (.int .i64 r2) := ⟨((bcell hB3).1 _ _ q1).trans d1, ((bcell hB3).1 _ _ q2).trans d2, ((bcell hB3).1 _ _ q3).trans d3, ((bcell hB3).1 _ _ q4).trans d4⟩
      refine wpAnyH_ready (rs := [16]) (by kernel_rfl) (by simp) ?_
      refine AllReadyH.cons rfl (fun K hK => ?_) AllReadyH.nil
      go_simp
      refine hK.out _ _ ?s25 (fun hHeld25 => ?_)
      case s25 => ((try dsimp only); (first | exact hS3 | exact hS2 | assumption | exact ⟨d1, d2, d3, d4⟩ | (first | go_keep | (obtain ⟨hq, _⟩ := bcell ‹Below _ _ _›; (repeat' apply And.intro) <;> (rw [hq _ _ (by first | assumption | omega | (simp; done) | (simp; omega) | (simp; assumption))] <;> (first | assumption | (simp [*]; done)))))))
      clear hK K hHeld
      have hHeld := hHeld25; clear hHeld25
      try simp only [Act.put, List.setIfInBounds_toArray, List.set_cons_zero, List.set_cons_succ]
      refine wpAnyH_ready (rs := [17]) (by kernel_rfl) (by simp) ?_
      refine AllReadyH.cons rfl (fun K hK => ?_) AllReadyH.nil
      refine wp_appendE rfl w.heap.size _ T (starL N es v hs x k) rfl hown2 wr.heap.size 0 1 1 [(r1, r2)] rfl rfl hnew (by have := HTl.out; omega) (by omega) (by simp; omega) ?_
      intro v' w3 hown3 hfr hgr
      have b31 := hfr w.heap.size w (Nat.le_refl _) hb9
      have HA3 := own_same (own_below HA.out hB3) fun t cs ht hB => hB.grown' hown2 hgr (by rw [ht]; decide)
      have HB3 := own_same (own_below HB.out hB3) fun t cs ht hB => hB.grown' hown2 hgr (by rw [ht]; decide)
      have HU3 := own_same (own_below HU.out hB3) fun t cs ht hB => hB.grown' hown2 hgr (by rw [ht]; decide)
      have HW3 := own_same (own_below HW.out hB3) fun t cs ht hB => hB.grown' hown2 hgr (by rw [ht]; decide)
      have hS3 : w3.cell? ⟨g8, k, none⟩ = some (.int .i64 (uu : Int)) ∧ w3.cell? ⟨g9, k, none⟩ = some (.int .i64 (yy : Int)) ∧ w3.cell? ⟨gi5, uu, none⟩ = some (.int .i64 r1) ∧ w3.cell? ⟨gi6, yy, none⟩ = some (.int .i64 r2) := ⟨by have h := own_cellI HU3 He1.out hlt; rw [Huu.out] at h; exact h, by have h := own_cellI HW3 He2.out hlt; rw [Hyy.out] at h; exact h, by have h := own_cellI HA3 (numL_len _ _ _) huN; rw [numL_getD huN, numV, pow_bit, if_neg (by simpa using huv), Hr1.out] at h; exact h, by have h := own_cellI HB3 (numL_len _ _ _) hyP; rw [numL_getD hyP, numV, pow_bit, if_neg (by simpa using hyx), Hr2.out] at h; exact h⟩
      refine hK.out _ _ ?s26 (fun hHeld26 => ?_)
      case s26 => ((try dsimp only); (first | exact hS3 | exact hS2 | assumption | exact ⟨d1, d2, d3, d4⟩ | (first | go_keep | (obtain ⟨hq, _⟩ := bcell ‹Below _ _ _›; (repeat' apply And.intro) <;> (rw [hq _ _ (by first | assumption | omega | (simp; done) | (simp; omega) | (simp; assumption))] <;> (first | assumption | (simp [*]; done)))))))
      clear hK K hHeld
      have hHeld := hHeld26; clear hHeld26
      try simp only [Act.put, List.setIfInBounds_toArray, List.set_cons_zero, List.set_cons_succ]
      refine wpAnyH_take_d (i := 18) (d := some 10) (v := ?v27) rfl rfl (by kernel_rfl) (by kernel_rfl) (by kernel_rfl) (fun _ _ _ h => h) (Or.inl ⟨by kernel_rfl, ?y27⟩) (by assumption) ?_
      case y27 => (intro w' hSw; (try dsimp only at hSw); go_simp; try with_reducible rfl)
      try simp only [Act.put, List.setIfInBounds_toArray, List.set_cons_zero, List.set_cons_succ]
      refine wpAnyH_done (by kernel_rfl) ?_ _
      refine NoPanic.normal ?_
      have Hb3 := Lib.hid b31
      have HA10 := Lib.hid HA3
      have HB10 := Lib.hid HB3
      have HU10 := Lib.hid HU3
      have HW10 := Lib.hid HW3
      have KG10 := Lib.hid ((KG.out.below hB3 (by omega)).grown' hown2 hgr (by decide))
      have KH10 := Lib.hid ((KH.out.below hB3 (by omega)).grown' hown2 hgr (by decide))
      have HZ10 := Lib.hid ((HZ.out.below hB3 (by omega)).grown' hown2 hgr (by decide))
      obtain ⟨g10, c10, rfl, _, _⟩ := own_someI hown3 (by omega)
      have HE10 : Hid (w3.ownsRow w.heap.size 45 2 (.slice (some ⟨g10, 0, none⟩) (T + 1) c10) (starL N es v hs x (k + 1)).length (cE (starL N es v hs x (k + 1)))) := by
        show World.ownsRow _ _ _ _ _ _ _
        rw [HsL.out, HTT.out, Hs.out]
        exact hown3
      clear hHeld hS3 hS2 b31 HA3 HB3 HU3 HW3 hown3 hfr hgr hown2 hnew hB3 hb9 HE HA HB HU HW KG KH HZ Hbel d1 d2 d3 d4 q1 q2 q3 q4 z9
      go_wp2
      exact ⟨⟨k + 1, by omega, by go_num, HE10, HA10, HB10, HU10, HW10, KG10, KH10, HZ10, Hb3⟩, by simp [intOf]; omega⟩
    · obtain rfl : k = 3 := by omega
      have cm := C9.out A7 c7 wr (own_rdE HE.out)
      obtain ⟨T, HTT⟩ : ∃ T, Hid ((starL N es v hs x 3).length = T) := ⟨_, rfl⟩
      rw [HTT.out] at cm
      simp only [HTT.out]
      have k0 := KG.out.cellAt 0 _ rfl
      have k1 := KH.out.cellAt 0 _ rfl
      go_wp2_with fail
      refine cm.mono ?_
      rintro e w4 ⟨A3, c3, rfl, hF, hb4⟩
      have HZ4 := Lib.hid (HZ.out.below hb4 HZ.out.lt)
      have x0 := HZ4.out.cellAt 0 _ rfl
      have x1 : (w4.setCell ⟨w.heap.size + 2, 0, none⟩ (.int .i64 ((N : Int) + P - 2))).cell? ⟨w.heap.size + 2, 1, none⟩ = some (.slice none 0 0) := (sc_other (by simp)).trans (HZ4.out.cellAt 1 _ rfl)
      have f0 := HZ4.out.frozen 0
      have f1 := HZ4.out.frozen 1
      have HF := Lib.hid hF
      have zz := HZ.out.lt
      have Hb4 : Hid (Below w.heap.size w w4) := Hbel.out.trans (hb4.mono (by omega))
      clear hF hb4 cm HE HA HB HU HW KG KH HZ Hbel k0 k1
      go_wp2
      refine ret_cell_tmp Try.results6 Try.underlying28 rfl (by kernel_rfl) rfl ((HZ4.out.set_ 0 (.int .i64 ((N : Int) + P - 2))).set_ 1 (.slice A3 T c3)) rfl rfl ⟨⟨A3, c3, ?_, FrE.mono (n0 := wr.heap.size) ?_ (by omega)⟩, (Hb4.out.setCell (by show w.heap.size ≤ w.heap.size + 2; omega) _).setCell (by show w.heap.size ≤ w.heap.size + 2; omega) _⟩
      · rw [madeE_len, HTT.out]; rfl
      · exact HF.out.away (((Only.refl _ _).set 0 _).set 1 _ : Only (some ⟨w.heap.size + 2, 0, none⟩) w4 _) zz
end Go.Proofs.Ytjgmoffkecnmcaa
