/- The reference's DotProduct: the graph. No statement of the program is proved here. -/
import Derived.Test.YtjgmoffkecnmcaaGreatDp5
namespace Go.Proofs.YtjgmoffkecnmcaaGreat
open Go.RowKit
set_option linter.unusedSimpArgs false
set_option linter.unusedVariables false
set_option maxRecDepth 20000

/-- Two numbers in order. -/
theorem upI_min (x y : Nat) : upI [(x : Int), (y : Int)] = [((min x y : Nat) : Int), ((max x y : Nat) : Int)] := by
  have hs : (upI [(x : Int), (y : Int)]).Pairwise (fun p q : Int => decide (p ≤ q) = true) := List.pairwise_mergeSort (le := fun p q : Int => decide (p ≤ q)) (fun p q r h1 h2 => by simp at *; omega) (fun p q => by simp; omega) _
  rcases upI_two (x : Int) (y : Int) with h | h
  · rw [h] at hs ⊢
    simp only [List.pairwise_cons, List.mem_singleton, forall_eq, decide_eq_true_eq] at hs
    have h1 : (x : Int) ≤ y := hs.1
    rw [Nat.min_eq_left (by omega), Nat.max_eq_right (by omega)]
  · rw [h] at hs ⊢
    simp only [List.pairwise_cons, List.mem_singleton, forall_eq, decide_eq_true_eq] at hs
    have h1 : (y : Int) ≤ x := hs.1
    rw [Nat.min_eq_right (by omega), Nat.max_eq_left (by omega)]
/-- The one edge that joins two vertices. -/
theorem joinF_one {es : List (Int × Int)} {a b : Int} (h : joinC es a b es.length = 1) : ∃ k : Nat, joinF es a b es.length = k ∧ k < es.length ∧ isJ a b (es.getD k (0, 0)) = true := by
  unfold joinC at h
  unfold joinF
  match hL : joinL es a b es.length, h with
  | [k], _ =>
    have hm : k ∈ joinL es a b es.length := by rw [hL]; simp
    unfold joinL at hm
    rw [List.mem_filter, List.mem_range] at hm
    exact ⟨k, rfl, hm.1, hm.2⟩

set_option maxHeartbeats 32000000 in
/-- The graph. -/
theorem specDot_yes (n : Int) (A : Option Addr) (c : Nat) (es : List (Int × Int)) (i j : Nat) (P : Nat) (B : Option Addr) (d : Nat) (hs : List (Int × Int)) (a b : Nat) (w : World) (hl : es.length ≤ 1000) (hl2 : hs.length ≤ 1000) (hr : RdE w A es) (hr2 : RdE w B hs) (h1 : Hid (isGraphB n es = true)) (h2 : Hid (isGraphB P hs = true)) (h3 : Hid ([(i : Int), (j : Int)].all (fun v => inB v 0 ((es.length : Int) - 1)) = true)) (h4 : Hid ([(a : Int), (b : Int)].all (fun v => inB v 0 ((P : Int) - 1)) = true)) (hi : i < es.length) (hj : j < es.length) (hn : 2 ≤ n ∧ n ≤ 20) (hP : 2 ≤ P ∧ P ≤ 20) (x0 x1 y0 y1 : Int) (hx : es.getD i (0, 0) = (x0, x1)) (hy : es.getD j (0, 0) = (y0, y1)) (hij : i ≠ j) (hnear : nearB (es.getD i (0, 0)) (es.getD j (0, 0)) = false) (hjc : joinC hs a b hs.length = 1) (h20 : n + P - 2 ≤ 20) (hin2 : InN P hs) (hab : a < 60 ∧ b < 60) (ht1 : (atL hs a).length = 3) (ht2 : (atL hs b).length = 3) (s0 s1 s2 s3 : Nat) (hsP : (s0 < P ∧ s1 < P) ∧ (s2 < P ∧ s3 < P)) (hT : ∀ s : Nat, s = s0 ∨ s = s1 ∨ s = s2 ∨ s = s3 → (setN [(a : Int), (b : Int)]).testBit s = false) (k9 : Nat) (hk9 : joinF hs a b hs.length = k9) (hUA : endW hs a k9 = [(s0 : Int), (s1 : Int)]) (hUB : endW hs b k9 = [(s2 : Int), (s3 : Int)])
    (X : List (Int × Int)) (hX : X = (dotK es (i : Int) (j : Int) es.length ++ woL (setN [(a : Int), (b : Int)]) n hs ++ dotQ (setN [(a : Int), (b : Int)]) n (x0, x1) (y0, y1) [((min s0 s1 : Nat) : Int), ((max s0 s1 : Nat) : Int), ((min s2 s3 : Nat) : Int), ((max s2 s3 : Nat) : Int)] 4)) (hXl : X.length ≤ 10000) :
    Calls Tryz.prog 12 #[.agg #[.int .i64 n, .slice A es.length c], .int .i64 (i : Int), .int .i64 (j : Int), .agg #[.int .i64 P, .slice B hs.length d], .int .i64 (a : Int), .int .i64 (b : Int)] w fun e' w' => RetG w' w.heap.size e' (n + P - 2) (madeE X) 0 ∧ Below w.heap.size w w' := by
  obtain ⟨bA, oA, rfl, hbA, hcA⟩ := hr.pos (by omega)
  have Hre : Hid (∀ W, Below w.heap.size w W → RdE W (some ⟨bA, oA, none⟩) es) := fun W hW => hr.below hW
  have hcE := hcA i hi
  have hcF := hcA j hj
  have C1 := Lib.hid fun W (hW : Below w.heap.size w W) => l01Is_b n (some ⟨bA, oA, none⟩) c es W true h1 (by omega) (hr.below hW)
  have C2 := fun W (hW : Below w.heap.size w W) => l01Is_b P B d hs W true h2 (by omega) (hr2.below hW)
  have c3 := fun W G (hW : Below w.heap.size w W) (hG : RdI W G [(i : Int), (j : Int)]) => l06Edges_b n (some ⟨bA, oA, none⟩) c es G 2 [(i : Int), (j : Int)] W true true h1 h3 (by omega) (by simp) (hr.below hW) hG
  have c4 := fun W G (hW : Below w.heap.size w W) (hG : RdI W G [(a : Int), (b : Int)]) => l06Vertices_b P B d hs G 2 [(a : Int), (b : Int)] W true true h2 h4 (by omega) (by simp) (hr2.below hW) hG
  rw [show gcode true true = 0 from rfl] at c3 c4
  have C5 := fun W (hW : Below w.heap.size w W) => l06Joined_b P B d hs a b W (by omega) (hr2.below hW)
  obtain ⟨jc, Hjc⟩ : ∃ x, Hid (joinC hs a b hs.length = x) := ⟨_, rfl⟩
  obtain ⟨jf, Hjf⟩ : ∃ x, Hid (joinF hs a b hs.length = x) := ⟨_, rfl⟩
  rw [Hjc.out, Hjf.out] at C5
  obtain ⟨qn, Hqn⟩ : ∃ q, Hid (nearB (es.getD i (0, 0)) (es.getD j (0, 0)) = q) := ⟨_, rfl⟩
  have C6 := Lib.hid fun W (hW : Below w.heap.size w W) => l08Near_b n (some ⟨bA, oA, none⟩) c es i j W qn Hqn hi hj (by omega) (hr.below hW)
  have pp1 : wrap64 (n + P) = n + P := wrap64_small (by omega) (by omega)
  have pp2 : wrap64 (n + P - 2) = n + P - 2 := wrap64_small (by omega) (by omega)
  rw [hnear] at Hqn
  obtain rfl : false = qn := Hqn.out
  rw [Hjc.out] at hjc
  rw [Hjf.out] at hk9
  subst hk9
  have hlU : (endW hs a k9).length = 2 := by rw [hUA]; rfl
  have hlV : (endW hs b k9).length = 2 := by rw [hUB]; rfl
  have c7 := fun W G (hW : Below w.heap.size w W) (hG : RdI W G [(a : Int), (b : Int)]) => l06Without_b P B d hs n G 2 [(a : Int), (b : Int)] W hl2 (by omega) (by omega) (by simp) (by simp) hin2 (hr2.below hW) hG
  have c8 := fun W (hW : Below w.heap.size w W) => l06Ends_b P B d hs P a k9 W hl2 (by omega) (by omega) hin2 ht1 (hr2.below hW)
  have c9 := fun W (hW : Below w.heap.size w W) => l06Ends_b P B d hs P b k9 W hl2 (by omega) (by omega) hin2 ht2 (hr2.below hW)
  rw [hlU, hUA] at c8
  rw [hlV, hUB] at c9
  have cm := fun Q cc (W : World) hQ => l01Made_b (n + P - 2) Q cc X W hXl hQ
  have g1 : ((i : Int) == (j : Int)) = false := by simp; omega
  have g2 : (jc != 1) = false := by simpa using hjc
  have g3 : decide (n + P - 2 > 20) = false := by simp; omega
  obtain ⟨r0, Hr0⟩ : ∃ r : Int, Hid (frV (setN [(a : Int), (b : Int)]) n (min s0 s1) = r) := ⟨_, rfl⟩
  obtain ⟨r1, Hr1⟩ : ∃ r : Int, Hid (frV (setN [(a : Int), (b : Int)]) n (max s0 s1) = r) := ⟨_, rfl⟩
  obtain ⟨r2, Hr2⟩ : ∃ r : Int, Hid (frV (setN [(a : Int), (b : Int)]) n (min s2 s3) = r) := ⟨_, rfl⟩
  obtain ⟨r3, Hr3⟩ : ∃ r : Int, Hid (frV (setN [(a : Int), (b : Int)]) n (max s2 s3) = r) := ⟨_, rfl⟩
  have HR : Hid (X = ((dotK es (i : Int) (j : Int) es.length ++ woL (setN [(a : Int), (b : Int)]) n hs) ++ [(x0, r0), (x1, r1)]) ++ [(y0, r2), (y1, r3)]) := by
    show _ = _
    rw [hX, ← Hr0.out, ← Hr1.out, ← Hr2.out, ← Hr3.out]
    simp [dotQ]
  have hnum : ∀ x : Nat, x < P → (setN [(a : Int), (b : Int)]).testBit x = false → (numL (setN [(a : Int), (b : Int)]) n P).getD x 0 = frV (setN [(a : Int), (b : Int)]) n x := fun x hx hb => by rw [numL_getD hx, numV_no hb]
  have l0 : min s0 s1 = s0 ∨ min s0 s1 = s1 := by omega
  have Hn0 := Lib.hid ((hnum (min s0 s1) (by omega) (by rcases l0 with h | h <;> rw [h] <;> exact hT _ (by simp))).trans Hr0.out)
  have l1 : max s0 s1 = s0 ∨ max s0 s1 = s1 := by omega
  have Hn1 := Lib.hid ((hnum (max s0 s1) (by omega) (by rcases l1 with h | h <;> rw [h] <;> exact hT _ (by simp))).trans Hr1.out)
  have l2 : min s2 s3 = s2 ∨ min s2 s3 = s3 := by omega
  have Hn2 := Lib.hid ((hnum (min s2 s3) (by omega) (by rcases l2 with h | h <;> rw [h] <;> exact hT _ (by simp))).trans Hr2.out)
  have l3 : max s2 s3 = s2 ∨ max s2 s3 = s3 := by omega
  have Hn3 := Lib.hid ((hnum (max s2 s3) (by omega) (by rcases l3 with h | h <;> rw [h] <;> exact hT _ (by simp))).trans Hr3.out)
  obtain ⟨p0, Hp0⟩ : ∃ p, Hid (min s0 s1 = p) := ⟨_, rfl⟩
  obtain ⟨p1, Hp1⟩ : ∃ p, Hid (max s0 s1 = p) := ⟨_, rfl⟩
  obtain ⟨p2, Hp2⟩ : ∃ p, Hid (min s2 s3 = p) := ⟨_, rfl⟩
  obtain ⟨p3, Hp3⟩ : ∃ p, Hid (max s2 s3 = p) := ⟨_, rfl⟩
  rw [Hp0.out] at Hn0
  rw [Hp1.out] at Hn1
  rw [Hp2.out] at Hn2
  rw [Hp3.out] at Hn3
  have HpP : Hid ((p0 < P ∧ p1 < P) ∧ (p2 < P ∧ p3 < P)) := by show _ ∧ _; rw [← Hp0.out, ← Hp1.out, ← Hp2.out, ← Hp3.out]; omega
  have mp0a : (if s1 < s0 then (s1 : Int) else s0) = (p0 : Int) := by rw [← Hp0.out]; split <;> omega
  have mp0b : (if (s1 : Int) < (s0 : Int) then (s1 : Int) else s0) = (p0 : Int) := by rw [← Hp0.out]; split <;> omega
  have mp0c : min (s0 : Int) (s1 : Int) = (p0 : Int) := by rw [← Hp0.out]; omega
  have mp1a : (if s0 < s1 then (s1 : Int) else s0) = (p1 : Int) := by rw [← Hp1.out]; split <;> omega
  have mp1b : (if (s0 : Int) < (s1 : Int) then (s1 : Int) else s0) = (p1 : Int) := by rw [← Hp1.out]; split <;> omega
  have mp1c : max (s0 : Int) (s1 : Int) = (p1 : Int) := by rw [← Hp1.out]; omega
  have mp2a : (if s3 < s2 then (s3 : Int) else s2) = (p2 : Int) := by rw [← Hp2.out]; split <;> omega
  have mp2b : (if (s3 : Int) < (s2 : Int) then (s3 : Int) else s2) = (p2 : Int) := by rw [← Hp2.out]; split <;> omega
  have mp2c : min (s2 : Int) (s3 : Int) = (p2 : Int) := by rw [← Hp2.out]; omega
  have mp3a : (if s2 < s3 then (s3 : Int) else s2) = (p3 : Int) := by rw [← Hp3.out]; split <;> omega
  have mp3b : (if (s2 : Int) < (s3 : Int) then (s3 : Int) else s2) = (p3 : Int) := by rw [← Hp3.out]; split <;> omega
  have mp3c : max (s2 : Int) (s3 : Int) = (p3 : Int) := by rw [← Hp3.out]; omega
  have HXl : Hid ((numL (setN [(a : Int), (b : Int)]) n P).length = P) := numL_len _ _ _
  obtain ⟨V, HV⟩ : ∃ V, Hid (numL (setN [(a : Int), (b : Int)]) n P = V) := ⟨_, rfl⟩
  rw [HV.out] at Hn0 Hn1 Hn2 Hn3 HXl
  simp only [HV.out] at c7
  have hWl := woL_len (setN [(a : Int), (b : Int)]) n hs
  have Hks : Hid (∀ k, k < es.length → dotK es (i : Int) (j : Int) (k + 1) = if (decide ((k : Int) ≠ i) && decide ((k : Int) ≠ j)) = true then dotK es (i : Int) (j : Int) k ++ [es.getD k (0, 0)] else dotK es (i : Int) (j : Int) k) := fun k _ => dotK_succ es i j k
  have Hkl : Hid (∀ k, (dotK es (i : Int) (j : Int) k).length ≤ k) := dotK_len es i j
  obtain ⟨Q0, HQ0⟩ : ∃ P, Hid (woL (setN [(a : Int), (b : Int)]) n hs = P) := ⟨_, rfl⟩
  rw [HQ0.out] at HR hWl
  simp only [HQ0.out] at c7
  obtain ⟨q0, Hq0⟩ : ∃ P, Hid (Q0.length = P) := ⟨_, rfl⟩
  rw [Hq0.out] at hWl
  simp only [Hq0.out] at c7
  obtain ⟨L, HL⟩ : ∃ L, Hid (es.length = L) := ⟨_, rfl⟩
  obtain ⟨M, HM⟩ : ∃ L, Hid (hs.length = L) := ⟨_, rfl⟩
  rw [HL.out] at C1 c3 C6 hi hj hl Hks HR ⊢
  rw [HM.out] at C2 c4 C5 c7 c8 c9 hWl hl2 ⊢
  obtain ⟨D0, HD0⟩ : ∃ P, Hid (dotK es (i : Int) (j : Int) L = P) := ⟨_, rfl⟩
  rw [HD0.out] at HR
  have HD0b : Hid (L ≤ 1000 ∧ q0 ≤ 1000) := by show _ ∧ _; omega
  obtain ⟨ei, ei2, ei3⟩ := idxF i L hi
  obtain ⟨ej, ej2, ej3⟩ := idxF j L hj
  obtain ⟨ep0, ep0b, ep0c⟩ := idxF p0 P HpP.out.1.1
  obtain ⟨ep1, ep1b, ep1c⟩ := idxF p1 P HpP.out.1.2
  obtain ⟨ep2, ep2b, ep2c⟩ := idxF p2 P HpP.out.2.1
  obtain ⟨ep3, ep3b, ep3c⟩ := idxF p3 P HpP.out.2.2
  obtain ⟨m, Hm⟩ : ∃ m : Int, Hid ((P : Int) = m) := ⟨_, rfl⟩
  simp only [show (Value.int .i64 (P : Int)) = .int .i64 m by rw [Hm.out]] at C2 c4 C5 c7 c8 c9 ⊢
  rw [Hm.out] at pp1 pp2 cm g3 ⊢
  have C2 := Lib.hid C2
  have C3 := Lib.hid c3
  have C4 := Lib.hid c4
  have C5 := Lib.hid C5
  have C7 := Lib.hid c7
  have C8 := Lib.hid c8
  have C9 := Lib.hid c9
  have cm := Lib.hid cm
  clear c3 c4 c7 c8 c9 hr hr2 h1 h2 h3 h4 Hqn Hjc Hjf hl hl2 hi hj hn hP hcA hij hnear hjc h20 hin2 hab ht1 ht2 hsP hT hUA hUB hX hXl hlU hlV hnum l0 l1 l2 l3 hWl HQ0 HV Hm
  go_enter Tryz.func12, Tryz.ntmps12
  go_wp2_with fail
  refine (C1.out (((w.alloc (.cells #[.int .i64 n, .slice (some ⟨bA, oA, none⟩) L c] 28)).alloc (.cells #[.int .i64 m, .slice B M d] 28)).alloc (.cells #[.int .i64 0, .slice none 0 0] 28)) (by (repeat' (first | (with_reducible exact Below.refl _ _) | (with_reducible assumption) | (with_reducible refine Below.alloc ?_ ?_ _) | (with_reducible refine Below.drew ?_) | (with_reducible refine below_drewN ?_ _) | (with_reducible refine Below.setCell ?_ ?_ _) | (with_reducible refine Below.trans ?_ (Below.mono (by assumption) ?_)) | (first | omega | (simp only [World.size_alloc, World.size_setCell, World.size_drew]; omega) | (simp; omega) | (simp; done)))))).mono ?_
  rintro e9 w1 ⟨rfl, hb1⟩
  have KG1 := Lib.hid (((((Blk.new w _ _).alloc _).alloc _).below hb1 (by simp <;> omega)) : Blk w1 w.heap.size 28 #[.int .i64 n, .slice (some ⟨bA, oA, none⟩) L c])
  have KH1 := Lib.hid ((((Blk.new' (n := w.heap.size + 1) _ (by simp)).alloc _).below hb1 (by simp)) : Blk w1 (w.heap.size + 1) 28 #[.int .i64 m, .slice B M d])
  have HZ1 := Lib.hid (((Blk.new' (n := w.heap.size + 2) _ (by simp)).below hb1 (by simp)) : Blk w1 (w.heap.size + 2) 28 #[.int .i64 0, .slice none 0 0])
  have Hb1 : Hid (Below w.heap.size w w1) := by show Below _ _ _; exact Below.trans (b := (((w.alloc (.cells #[.int .i64 n, .slice (some ⟨bA, oA, none⟩) L c] 28)).alloc (.cells #[.int .i64 m, .slice B M d] 28)).alloc (.cells #[.int .i64 0, .slice none 0 0] 28))) (by (repeat' (first | (with_reducible exact Below.refl _ _) | (with_reducible assumption) | (with_reducible refine Below.alloc ?_ ?_ _) | (with_reducible refine Below.drew ?_) | (with_reducible refine below_drewN ?_ _) | (with_reducible refine Below.setCell ?_ ?_ _) | (with_reducible refine Below.trans ?_ (Below.mono (by assumption) ?_)) | (first | omega | (simp only [World.size_alloc, World.size_setCell, World.size_drew]; omega) | (simp; omega) | (simp; done))))) (hb1.mono (by simp <;> omega))
  have k0 := KG1.out.cellAt 0 _ rfl
  have k1 := KG1.out.cellAt 1 _ rfl
  have k2 := KH1.out.cellAt 0 _ rfl
  have k3 := KH1.out.cellAt 1 _ rfl
  have z9 := HZ1.out.lt
  clear hb1
  go_wp2_with fail
  refine (C2.out w1 Hb1.out).mono ?_
  rintro e9 w2 ⟨rfl, hb2⟩
  have hbb2 := hb2
  have KG2 := Lib.hid (KG1.out.below hbb2 (by have := HZ1.out.lt; omega))
  have KH2 := Lib.hid (KH1.out.below hbb2 (by have := HZ1.out.lt; omega))
  have HZ2 := Lib.hid (HZ1.out.below hbb2 HZ1.out.lt)
  have Hb2 : Hid (Below w.heap.size w w2) := Hb1.out.trans (hbb2.mono (by have := HZ1.out.lt; omega))
  clear k0 k1 k2 k3 z9 hb2 hbb2 KG1 KH1 HZ1 Hb1
  have k0 := KG2.out.cellAt 0 _ rfl
  have k1 := KG2.out.cellAt 1 _ rfl
  have k2 := KH2.out.cellAt 0 _ rfl
  have k3 := KH2.out.cellAt 1 _ rfl
  have z9 := HZ2.out.lt
  go_wp2_with fail
  refine (C3.out (w2.alloc (.cells #[.int .i64 (i : Int), .int .i64 (j : Int)] 2)) (some ⟨w2.heap.size, 0, none⟩) (Hb2.out.alloc (by omega) _) (blkI_rd (t := 2) (xs := [(i : Int), (j : Int)]) (Blk.new' _ rfl))).mono ?_
  rintro e9 w3 ⟨rfl, hb3⟩
  have hbb3 : Below w2.heap.size w2 w3 := (Below.alloc (Below.refl _ _) (Nat.le_refl _) _).trans (hb3.mono (by simp))
  have KG3 := Lib.hid (KG2.out.below hbb3 (by have := HZ2.out.lt; omega))
  have KH3 := Lib.hid (KH2.out.below hbb3 (by have := HZ2.out.lt; omega))
  have HZ3 := Lib.hid (HZ2.out.below hbb3 HZ2.out.lt)
  have Hb3 : Hid (Below w.heap.size w w3) := Hb2.out.trans (hbb3.mono (by have := HZ2.out.lt; omega))
  clear k0 k1 k2 k3 z9 hb3 hbb3 KG2 KH2 HZ2 Hb2
  have k0 := KG3.out.cellAt 0 _ rfl
  have k1 := KG3.out.cellAt 1 _ rfl
  have k2 := KH3.out.cellAt 0 _ rfl
  have k3 := KH3.out.cellAt 1 _ rfl
  have z9 := HZ3.out.lt
  go_wp2_with fail
  refine (C4.out (w3.alloc (.cells #[.int .i64 (a : Int), .int .i64 (b : Int)] 2)) (some ⟨w3.heap.size, 0, none⟩) (Hb3.out.alloc (by omega) _) (blkI_rd (t := 2) (xs := [(a : Int), (b : Int)]) (Blk.new' _ rfl))).mono ?_
  rintro e9 w4 ⟨rfl, hb4⟩
  have hbb4 : Below w3.heap.size w3 w4 := (Below.alloc (Below.refl _ _) (Nat.le_refl _) _).trans (hb4.mono (by simp))
  have KG4 := Lib.hid (KG3.out.below hbb4 (by have := HZ3.out.lt; omega))
  have KH4 := Lib.hid (KH3.out.below hbb4 (by have := HZ3.out.lt; omega))
  have HZ4 := Lib.hid (HZ3.out.below hbb4 HZ3.out.lt)
  have Hb4 : Hid (Below w.heap.size w w4) := Hb3.out.trans (hbb4.mono (by have := HZ3.out.lt; omega))
  clear k0 k1 k2 k3 z9 hb4 hbb4 KG3 KH3 HZ3 Hb3
  have k0 := KG4.out.cellAt 0 _ rfl
  have k1 := KG4.out.cellAt 1 _ rfl
  have k2 := KH4.out.cellAt 0 _ rfl
  have k3 := KH4.out.cellAt 1 _ rfl
  have z9 := HZ4.out.lt
  go_wp2_with fail
  refine (C5.out w4 Hb4.out).mono ?_
  rintro e9 w5 ⟨rfl, hb5⟩
  have hbb5 := hb5
  have KG5 := Lib.hid (KG4.out.below hbb5 (by have := HZ4.out.lt; omega))
  have KH5 := Lib.hid (KH4.out.below hbb5 (by have := HZ4.out.lt; omega))
  have HZ5 := Lib.hid (HZ4.out.below hbb5 HZ4.out.lt)
  have Hb5 : Hid (Below w.heap.size w w5) := Hb4.out.trans (hbb5.mono (by have := HZ4.out.lt; omega))
  clear k0 k1 k2 k3 z9 hb5 hbb5 KG4 KH4 HZ4 Hb4
  have k0 := KG5.out.cellAt 0 _ rfl
  have k1 := KG5.out.cellAt 1 _ rfl
  have k2 := KH5.out.cellAt 0 _ rfl
  have k3 := KH5.out.cellAt 1 _ rfl
  have z9 := HZ5.out.lt
  go_wp2_with fail
  refine (C6.out w5 Hb5.out).mono ?_
  rintro e9 w6 ⟨rfl, hb6⟩
  have hbb6 := hb6
  have KG6 := Lib.hid (KG5.out.below hbb6 (by have := HZ5.out.lt; omega))
  have KH6 := Lib.hid (KH5.out.below hbb6 (by have := HZ5.out.lt; omega))
  have HZ6 := Lib.hid (HZ5.out.below hbb6 HZ5.out.lt)
  have Hb6 : Hid (Below w.heap.size w w6) := Hb5.out.trans (hbb6.mono (by have := HZ5.out.lt; omega))
  clear k0 k1 k2 k3 z9 hb6 hbb6 KG5 KH5 HZ5 Hb5
  have k0 := KG6.out.cellAt 0 _ rfl
  have k1 := KG6.out.cellAt 1 _ rfl
  have k2 := KH6.out.cellAt 0 _ rfl
  have k3 := KH6.out.cellAt 1 _ rfl
  have z9 := HZ6.out.lt
  go_wp2_with fail
  refine (C7.out (w6.alloc (.cells #[.int .i64 (a : Int), .int .i64 (b : Int)] 2)) (some ⟨w6.heap.size, 0, none⟩) (Hb6.out.alloc (by omega) _) (blkI_rd (t := 2) (xs := [(a : Int), (b : Int)]) (Blk.new' _ rfl))).mono ?_
  rintro e9 w7 ⟨ge, ce, gi, ci, rfl, hE7, hI7, hb7⟩
  have hbb7 : Below w6.heap.size w6 w7 := (Below.alloc (Below.refl _ _) (Nat.le_refl _) _).trans (hb7.mono (by simp))
  have HE7 := Lib.hid (own_mono hE7 (show w.heap.size ≤ _ by simp; omega))
  have HI7 := Lib.hid (own_mono hI7 (show w.heap.size ≤ _ by simp; omega))
  clear hE7 hI7 C1 C2 C3 C4 C5 C6 C7 g1 g2 g3
  have KG7 := Lib.hid (KG6.out.below hbb7 (by have := HZ6.out.lt; omega))
  have KH7 := Lib.hid (KH6.out.below hbb7 (by have := HZ6.out.lt; omega))
  have HZ7 := Lib.hid (HZ6.out.below hbb7 HZ6.out.lt)
  have Hb7 : Hid (Below w.heap.size w w7) := Hb6.out.trans (hbb7.mono (by have := HZ6.out.lt; omega))
  clear k0 k1 k2 k3 z9 hb7 hbb7 KG6 KH6 HZ6 Hb6
  have k0 := KG7.out.cellAt 0 _ rfl
  have k1 := KG7.out.cellAt 1 _ rfl
  have k2 := KH7.out.cellAt 0 _ rfl
  have k3 := KH7.out.cellAt 1 _ rfl
  have z9 := HZ7.out.lt
  have zge := (HE7.out.lt ge rfl).2
  have zgi := (HI7.out.lt gi rfl).2
  have hU : Below w7.heap.size w7 (w7.alloc (.cells #[] 40)) := Below.alloc (Below.refl _ _) (Nat.le_refl _) _
  have HE0 : Hid ((w7.alloc (.cells #[] 40)).ownsRow w7.heap.size 40 2 (.slice (some ⟨w7.heap.size, 0, none⟩) 0 0) 0 (cE [])) := own_blk (xs := []) (Blk.new' (n := w7.heap.size) (t := 40) (cs := #[]) _ rfl) (by simp) (by decide)
  have HU := Lib.hid hU
  clear hU
  go_wp2_with fail
  go_loopw [18, 19] (fun s ii wr => ∃ (k K : Nat), k ≤ L ∧ ii = .int .i64 k ∧ Hid (wr.ownsRow w7.heap.size 40 2 s K (cE (dotK es (i : Int) (j : Int) k))) ∧ Hid (Below w7.heap.size w7 wr)) (fun _ ii _ => L - (intOf ii).toNat)
  case atStart => exact ⟨0, 0, Nat.zero_le _, rfl, HE0, HU⟩
  case round =>
    clear HE0 HU
    obtain ⟨k, KN, hk, rfl, Hown, Hbel⟩ := hrel
    obtain ⟨A1, c1, rfl⟩ := own_form Hown.out
    have hsz := Hbel.out.size
    have Hbw : Hid (Below w.heap.size w wr) := Hb7.out.trans (Hbel.out.mono Hb7.out.size)
    have kg := (KG7.out.below Hbel.out (by omega)).cellAt 1 _ rfl
    have HKk : Hid (KN ≤ 1000) := by
      show _ ≤ _
      have h1 := own_lenE Hown.out
      have h2 := Hkl.out k
      have := HD0b.out
      omega
    by_cases hlt : k < L
    · obtain ⟨bb, off, hA, hb, hc⟩ := (Hre.out wr Hbw.out).pos (by rw [HL.out]; omega)
      injection hA with hA
      injection hA with hA1 hA2 _
      subst hA1; subst hA2
      obtain ⟨hc0, hc1⟩ := hc k (by rw [HL.out]; exact hlt)
      obtain ⟨⟨x, y⟩, Hxy⟩ : ∃ p, Hid (es.getD k (0, 0) = p) := ⟨_, rfl⟩
      rw [Hxy.out] at hc0 hc1
      dsimp only at hc0 hc1
      have Hs := Lib.hid (Hks.out k hlt)
      rw [Hxy.out] at Hs
      obtain ⟨PK, HPK⟩ : ∃ P, Hid (dotK es (i : Int) (j : Int) k = P) := ⟨_, rfl⟩
      rw [HPK.out] at Hown Hs
      obtain ⟨ek, ek2, ek3⟩ := idxF k L hlt
      have hk9 : k ≤ 1000 := by have := HD0b.out; omega
      clear hc
      cases g1 : ((k : Int) != (i : Int))
      · have hg : (k : Int) = i := by simpa using g1
        have Hs2 : Hid (dotK es (i : Int) (j : Int) (k + 1) = PK) := by show _ = _; rw [Hs.out, if_neg (by simp [hg])]
        clear hg Hs
        go_wp2
        exact ⟨⟨k + 1, KN, by omega, by go_num, by { show World.ownsRow _ _ _ _ _ _ _; rw [Hs2.out]; exact Hown.out }, Hbel⟩, by simp [intOf]; omega⟩
      · cases g2 : ((k : Int) != (j : Int))
        · have hg : (k : Int) = j := by simpa using g2
          have Hs2 : Hid (dotK es (i : Int) (j : Int) (k + 1) = PK) := by show _ = _; rw [Hs.out, if_neg (by simp [hg])]
          clear hg Hs
          go_wp2
          exact ⟨⟨k + 1, KN, by omega, by go_num, by { show World.ownsRow _ _ _ _ _ _ _; rw [Hs2.out]; exact Hown.out }, Hbel⟩, by simp [intOf]; omega⟩
        · have hg1 : (k : Int) ≠ i := by simpa using g1
          have hg2 : (k : Int) ≠ j := by simpa using g2
          have Hs2 : Hid (dotK es (i : Int) (j : Int) (k + 1) = PK ++ [(x, y)]) := by show _ = _; rw [Hs.out, if_pos (by rw [decide_eq_true hg1, decide_eq_true hg2]; rfl)]
          clear hg1 hg2 Hs
          have hown2 := own_below Hown.out (show Below wr.heap.size wr (wr.alloc (.cells #[.int .i64 x, .int .i64 y] 40)) by (repeat' (first | (with_reducible exact Below.refl _ _) | (with_reducible assumption) | (with_reducible refine Below.alloc ?_ ?_ _) | (with_reducible refine Below.drew ?_) | (with_reducible refine below_drewN ?_ _) | (with_reducible refine Below.setCell ?_ ?_ _) | (with_reducible refine Below.trans ?_ (Below.mono (by assumption) ?_)) | (first | omega | (simp only [World.size_alloc, World.size_setCell, World.size_drew]; omega) | (simp; omega) | (simp; done)))))
          have hB3 : Below w7.heap.size w7 (wr.alloc (.cells #[.int .i64 x, .int .i64 y] 40)) := by have := Hbel.out; (repeat' (first | (with_reducible exact Below.refl _ _) | (with_reducible assumption) | (with_reducible refine Below.alloc ?_ ?_ _) | (with_reducible refine Below.drew ?_) | (with_reducible refine below_drewN ?_ _) | (with_reducible refine Below.setCell ?_ ?_ _) | (with_reducible refine Below.trans ?_ (Below.mono (by assumption) ?_)) | (first | omega | (simp only [World.size_alloc, World.size_setCell, World.size_drew]; omega) | (simp; omega) | (simp; done))))
          have hnew : RdE (wr.alloc (.cells #[.int .i64 x, .int .i64 y] 40)) (some ⟨wr.heap.size, 0, none⟩) [(x, y)] := blkE_rd (t := 40) (es := [(x, y)]) (Blk.new' (n := wr.heap.size) _ rfl)
          have hKk := HKk.out
          go_wp2_with (first
            | (at_builtin; refine wpList_appendE rfl rfl w7.heap.size _ KN PK rfl hown2 wr.heap.size 0 1 1 [(x, y)] rfl rfl hnew (by omega) (by omega) (by simp; omega) ?_))
          intro v' w3 hown3 hfr hgr
          have Hb3 : Hid (Below w7.heap.size w7 w3) := hfr w7.heap.size w7 (Nat.le_refl _) hB3
          obtain ⟨g3, c3, rfl, _, _⟩ := own_someI hown3 (by omega)
          have Hown3 : Hid (w3.ownsRow w7.heap.size 40 2 (.slice (some ⟨g3, 0, none⟩) (KN + 1) c3) (KN + 1) (cE (dotK es (i : Int) (j : Int) (k + 1)))) := by
            show World.ownsRow _ _ _ _ _ _ _
            rw [Hs2.out]
            exact hown3
          clear hown3 hfr hgr hown2 hnew hB3 Hown Hbel Hbw hc0 hc1 kg
          go_wp2
          exact ⟨⟨k + 1, KN + 1, by omega, by go_num, Hown3, Hb3⟩, by simp [intOf]; omega⟩
    · obtain rfl : L = k := by omega
      rw [HD0.out] at Hown
      have hrd7 := (own_rdE HE7.out).below Hbel.out
      have hKk := HKk.out
      have hq0b := HD0b.out
      have hq0 := Hq0.out
      go_wp2_with (first
        | (at_builtin; refine wpList_appendE rfl rfl w7.heap.size _ KN D0 rfl Hown.out ge 0 q0 ce Q0 rfl hq0 hrd7 (by omega) (by omega) hsz ?_))
      intro v8 w8 hown8 hfr8 hgr8
      have hb8 : Below w7.heap.size w7 w8 := hfr8 w7.heap.size w7 (Nat.le_refl _) Hbel.out
      obtain ⟨A8, c8, rfl⟩ := own_form hown8
      have HO8 : Hid (w8.ownsRow w7.heap.size 40 2 (.slice A8 (KN + q0) c8) (KN + q0) (cE (D0 ++ Q0))) := hown8
      have HKq : Hid (KN + q0 ≤ 2000) := by show _ ≤ _; omega
      clear hown8 hfr8 hgr8 hrd7 hKk hq0b hq0 Hown Hbel Hbw kg hsz
      have b8 : Below w.heap.size w w8 := Hb7.out.trans (hb8.mono Hb7.out.size)
      have v0 : w8.cell? ⟨w.heap.size + 1, 0, none⟩ = some (.int .i64 m) ∧ w8.cell? ⟨w.heap.size + 1, 1, none⟩ = some (.slice B M d) := ⟨(KH7.out.below hb8 (by omega)).cellAt 0 _ rfl, (KH7.out.below hb8 (by omega)).cellAt 1 _ rfl⟩
      have hs7 := Hb7.out.size
      go_wp2
      refine wp_region_noPanic ?_
      refine wp_region_held_drew (S := (fun w' => w'.cell? ⟨w.heap.size + 1, 0, none⟩ = some (.int .i64 m) ∧ w'.cell? ⟨w.heap.size + 1, 1, none⟩ = some (.slice B M d))) (by kernel_rfl) ?_ (fun hHeld => ?_)
      · (try dsimp only); (first | exact hS3 | exact hS2 | exact v0 | assumption | (first | go_keep | (obtain ⟨hq, _⟩ := bcell ‹Below _ _ _›; (repeat' apply And.intro) <;> (rw [hq _ _ (by first | assumption | omega | (simp; done) | (simp; omega) | (simp; assumption))] <;> (first | assumption | (simp [*]; done))))))
      refine wpAnyH_take_d (i := 0) (d := some 112) (v := ?v1) rfl rfl (by kernel_rfl) (by kernel_rfl) (by kernel_rfl) (fun _ _ _ h => h) (Or.inl ⟨by kernel_rfl, ?y1⟩) (by assumption) ?_
      case y1 => (intro w' hSw; (try dsimp only at hSw); go_simp; try with_reducible rfl)
      try simp only [Act.put, List.setIfInBounds_toArray, List.set_cons_zero, List.set_cons_succ]
      refine wpAnyH_take_d (i := 1) (d := some 113) (v := ?v2) rfl rfl (by kernel_rfl) (by kernel_rfl) (by kernel_rfl) (fun _ _ _ h => h) (Or.inl ⟨by kernel_rfl, ?y2⟩) (by assumption) ?_
      case y2 => (intro w' hSw; (try dsimp only at hSw); go_simp; try with_reducible rfl)
      try simp only [Act.put, List.setIfInBounds_toArray, List.set_cons_zero, List.set_cons_succ]
      refine wpAnyH_take_d (i := 2) (d := some 114) (v := ?v3) rfl rfl (by kernel_rfl) (by kernel_rfl) (by kernel_rfl) (fun _ _ _ h => h) (Or.inl ⟨by kernel_rfl, ?y3⟩) (by assumption) ?_
      case y3 => (intro w' hSw; (try dsimp only at hSw); go_simp; try with_reducible rfl)
      try simp only [Act.put, List.setIfInBounds_toArray, List.set_cons_zero, List.set_cons_succ]
      refine wpAnyH_take_d (i := 4) (d := some 116) (v := ?v4) rfl rfl (by kernel_rfl) (by kernel_rfl) (by kernel_rfl) (fun _ _ _ h => h) (Or.inl ⟨by kernel_rfl, ?y4⟩) (by assumption) ?_
      case y4 => (intro w' hSw; (try dsimp only at hSw); go_simp; try with_reducible rfl)
      try simp only [Act.put, List.setIfInBounds_toArray, List.set_cons_zero, List.set_cons_succ]
      refine wpAnyH_take_d (i := 5) (d := some 117) (v := ?v5) rfl rfl (by kernel_rfl) (by kernel_rfl) (by kernel_rfl) (fun _ _ _ h => h) (Or.inl ⟨by kernel_rfl, ?y5⟩) (by assumption) ?_
      case y5 => (intro w' hSw; (try dsimp only at hSw); go_simp; try with_reducible rfl)
      try simp only [Act.put, List.setIfInBounds_toArray, List.set_cons_zero, List.set_cons_succ]
      refine wpAnyH_take_d (i := 6) (d := some 118) (v := ?v6) rfl rfl (by kernel_rfl) (by kernel_rfl) (by kernel_rfl) (fun _ _ _ h => h) (Or.inl ⟨by kernel_rfl, ?y6⟩) (by assumption) ?_
      case y6 => (intro w' hSw; (try dsimp only at hSw); go_simp; try with_reducible rfl)
      try simp only [Act.put, List.setIfInBounds_toArray, List.set_cons_zero, List.set_cons_succ]
      refine wpAnyH_ready (rs := [3]) (by kernel_rfl) (by simp) ?_
      refine AllReadyH.cons rfl (fun K hK => ?_) AllReadyH.nil
      go_simp
      refine (C8.out _ (Below.drew b8)).mono ?_; rintro e9 w9 ⟨A9, ca, rfl, hown9, hb9⟩; have b9 : Below w7.heap.size w7 w9 := hb8.trans (((Below.drew (Below.refl _ _)).trans hb9).mono hb8.size); have hS2 : w9.cell? ⟨w.heap.size + 1, 0, none⟩ = some (.int .i64 m) ∧ w9.cell? ⟨w.heap.size + 1, 1, none⟩ = some (.slice B M d) := ⟨(KH7.out.below b9 (by omega)).cellAt 0 _ rfl, (KH7.out.below b9 (by omega)).cellAt 1 _ rfl⟩
      refine hK.out _ _ ?s7 (fun hHeld7 => ?_)
      case s7 => ((try dsimp only); (first | exact hS3 | exact hS2 | exact v0 | assumption | (first | go_keep | (obtain ⟨hq, _⟩ := bcell ‹Below _ _ _›; (repeat' apply And.intro) <;> (rw [hq _ _ (by first | assumption | omega | (simp; done) | (simp; omega) | (simp; assumption))] <;> (first | assumption | (simp [*]; done)))))))
      clear hK K hHeld
      have hHeld := hHeld7; clear hHeld7
      try simp only [Act.put, List.setIfInBounds_toArray, List.set_cons_zero, List.set_cons_succ]
      refine wpAnyH_ready (rs := [7]) (by kernel_rfl) (by simp) ?_
      refine AllReadyH.cons rfl (fun K hK => ?_) AllReadyH.nil
      go_simp
      refine (C9.out _ (Hb7.out.trans (b9.mono Hb7.out.size))).mono ?_; rintro e9 w10 ⟨A10, cb, rfl, hown10, hb10⟩; have b10 : Below w7.heap.size w7 w10 := b9.trans (hb10.mono b9.size); have hS3 : w10.cell? ⟨w.heap.size + 1, 0, none⟩ = some (.int .i64 m) ∧ w10.cell? ⟨w.heap.size + 1, 1, none⟩ = some (.slice B M d) := ⟨(KH7.out.below b10 (by omega)).cellAt 0 _ rfl, (KH7.out.below b10 (by omega)).cellAt 1 _ rfl⟩
      refine hK.out _ _ ?s8 (fun hHeld8 => ?_)
      case s8 => ((try dsimp only); (first | exact hS3 | exact hS2 | exact v0 | assumption | (first | go_keep | (obtain ⟨hq, _⟩ := bcell ‹Below _ _ _›; (repeat' apply And.intro) <;> (rw [hq _ _ (by first | assumption | omega | (simp; done) | (simp; omega) | (simp; assumption))] <;> (first | assumption | (simp [*]; done)))))))
      clear hK K hHeld
      have hHeld := hHeld8; clear hHeld8
      try simp only [Act.put, List.setIfInBounds_toArray, List.set_cons_zero, List.set_cons_succ]
      refine wpAnyH_take_d (i := 8) (d := some 20) (v := ?v9) rfl rfl (by kernel_rfl) (by kernel_rfl) (by kernel_rfl) (fun _ _ _ h => h) (Or.inl ⟨by kernel_rfl, ?y9⟩) (by assumption) ?_
      case y9 => (intro w' hSw; (try dsimp only at hSw); go_simp; try with_reducible rfl)
      try simp only [Act.put, List.setIfInBounds_toArray, List.set_cons_zero, List.set_cons_succ]
      refine wpAnyH_take_d (i := 9) (d := some 21) (v := ?v10) rfl rfl (by kernel_rfl) (by kernel_rfl) (by kernel_rfl) (fun _ _ _ h => h) (Or.inl ⟨by kernel_rfl, ?y10⟩) (by assumption) ?_
      case y10 => (intro w' hSw; (try dsimp only at hSw); go_simp; try with_reducible rfl)
      try simp only [Act.put, List.setIfInBounds_toArray, List.set_cons_zero, List.set_cons_succ]
      refine wpAnyH_done (by kernel_rfl) ?_ _
      refine NoPanic.normal ?_
      have bb10 : Below w8.heap.size w8 w10 := ((Below.drew (Below.refl _ _)).trans hb9).trans (hb10.mono (by have := hb9.size; exact this))
      have HO10 := Lib.hid (own_below HO8.out bb10)
      have HA10 : Hid (w10.ownsRow w.heap.size 2 1 (.slice A9 2 ca) 2 (cI [(s0 : Int), (s1 : Int)])) := own_mono (own_below hown9 hb10) (show w.heap.size ≤ w8.heap.size from b8.size)
      have HB10 : Hid (w10.ownsRow w.heap.size 2 1 (.slice A10 2 cb) 2 (cI [(s2 : Int), (s3 : Int)])) := own_mono hown10 (by have := b9.size; have := Hb7.out.size; omega)
      have HI10 := Lib.hid (own_below HI7.out b10)
      have KG10 := Lib.hid (KG7.out.below b10 (by omega))
      have KH10 := Lib.hid (KH7.out.below b10 (by omega))
      have HZ10 := Lib.hid (HZ7.out.below b10 (by omega))
      have Hb10 := Lib.hid (Hb7.out.trans (b10.mono Hb7.out.size))
      have hz10 := Lib.hid b10.size
      clear hHeld hS2 hS3 hb8 b8 v0 hb9 b9 hb10 b10 bb10 hown9 hown10 HO8 HI7 HE7 KG7 KH7 HZ7 Hb7 C8 C9 k0 k1 k2 k3 z9
      obtain ⟨ga, ca', hv8, _, _⟩ := own_someI HA10.out (by omega)
      injection hv8 with hv5 _ hv6
      subst hv5; subst hv6
      obtain ⟨gb, cb', hv8, _, _⟩ := own_someI HB10.out (by omega)
      injection hv8 with hv5 _ hv6
      subst hv5; subst hv6
      have b0 := Hb10.out
      have f0 := KG10.out.cellAt 1 _ rfl
      have f1 := ((bcell b0).1 bA (oA + i * 2) hbA).trans hcE.1
      have f2 := ((bcell b0).1 bA (oA + i * 2 + 1) hbA).trans hcE.2
      rw [hx] at f1 f2
      dsimp only at f1 f2
      have f3 : w10.cell? ⟨ga, 0, none⟩ = some (.int .i64 (s0 : Int)) := own_cellI HA10.out rfl (by decide)
      have f4 : w10.cell? ⟨ga, 1, none⟩ = some (.int .i64 (s1 : Int)) := own_cellI HA10.out rfl (by decide)
      have f5 : w10.cell? ⟨gi, p0, none⟩ = some (.int .i64 r0) := by have h := own_cellI HI10.out HXl.out HpP.out.1.1; rw [Hn0.out] at h; exact h
      have f6 : w10.cell? ⟨gi, p1, none⟩ = some (.int .i64 r1) := by have h := own_cellI HI10.out HXl.out HpP.out.1.2; rw [Hn1.out] at h; exact h
      have q1 := KG10.out.lt
      have q2 : bA < w10.heap.size := by have := b0.size; omega
      have q3 := (HA10.out.lt ga rfl).2
      have q4 := (HI10.out.lt gi rfl).2
      have qz := HZ10.out.lt
      have qh := KH10.out.lt
      have hB3 : Below w10.heap.size w10 (w10.drew.alloc (.cells #[.int .i64 x0, .int .i64 r0, .int .i64 x1, .int .i64 r1] 40)) := by (repeat' (first | (with_reducible exact Below.refl _ _) | (with_reducible assumption) | (with_reducible refine Below.alloc ?_ ?_ _) | (with_reducible refine Below.drew ?_) | (with_reducible refine below_drewN ?_ _) | (with_reducible refine Below.setCell ?_ ?_ _) | (with_reducible refine Below.trans ?_ (Below.mono (by assumption) ?_)) | (first | omega | (simp only [World.size_alloc, World.size_setCell, World.size_drew]; omega) | (simp; omega) | (simp; done))))
      have hown2 := own_below HO10.out hB3
      have hnew : RdE (w10.drew.alloc (.cells #[.int .i64 x0, .int .i64 r0, .int .i64 x1, .int .i64 r1] 40)) (some ⟨w10.heap.size, 0, none⟩) [(x0, r0), (x1, r1)] := blkE_rd (t := 40) (es := [(x0, r0), (x1, r1)]) (Blk.new' (n := w10.heap.size) _ (by simp))
      have hb9 : Below w.heap.size w (w10.drew.alloc (.cells #[.int .i64 x0, .int .i64 r0, .int .i64 x1, .int .i64 r1] 40)) := b0.trans (hB3.mono b0.size)
      have hzz := hz10.out
      go_wp2_with fail
      refine wp_region_noPanic ?_
      refine wp_region_held_drew (S := (fun w' => w'.cell? ⟨w.heap.size, 1, none⟩ = some (.slice (some ⟨bA, oA, none⟩) L c) ∧ w'.cell? ⟨bA, oA + i * 2, none⟩ = some (.int .i64 x0) ∧ w'.cell? ⟨bA, oA + i * 2 + 1, none⟩ = some (.int .i64 x1) ∧ w'.cell? ⟨ga, 0, none⟩ = some (.int .i64 (s0 : Int)) ∧ w'.cell? ⟨ga, 1, none⟩ = some (.int .i64 (s1 : Int)) ∧ w'.cell? ⟨gi, p0, none⟩ = some (.int .i64 r0) ∧ w'.cell? ⟨gi, p1, none⟩ = some (.int .i64 r1))) (by kernel_rfl) ?_ (fun hHeld => ?_)
      · (try dsimp only); (first | exact hS3 | exact hS2 | exact ⟨f0, f1, f2, f3, f4, f5, f6⟩ | assumption | (first | go_keep | (obtain ⟨hq, _⟩ := bcell ‹Below _ _ _›; (repeat' apply And.intro) <;> (rw [hq _ _ (by first | assumption | omega | (simp; done) | (simp; omega) | (simp; assumption))] <;> (first | assumption | (simp [*]; done))))))
      refine wpAnyH_take_d (i := 0) (d := some 120) (v := ?v11) rfl rfl (by kernel_rfl) (by kernel_rfl) (by kernel_rfl) (fun _ _ _ h => h) (Or.inl ⟨by kernel_rfl, ?y11⟩) (by assumption) ?_
      case y11 => (intro w' hSw; (try dsimp only at hSw); go_simp; try with_reducible rfl)
      try simp only [Act.put, List.setIfInBounds_toArray, List.set_cons_zero, List.set_cons_succ]
      refine wpAnyH_take_d (i := 1) (d := some 121) (v := ?v12) rfl rfl (by kernel_rfl) (by kernel_rfl) (by kernel_rfl) (fun _ _ _ h => h) (Or.inl ⟨by kernel_rfl, ?y12⟩) (by assumption) ?_
      case y12 => (intro w' hSw; (try dsimp only at hSw); go_simp; try with_reducible rfl)
      try simp only [Act.put, List.setIfInBounds_toArray, List.set_cons_zero, List.set_cons_succ]
      refine wpAnyH_take_d (i := 2) (d := some 122) (v := ?v13) rfl rfl (by kernel_rfl) (by kernel_rfl) (by kernel_rfl) (fun _ _ _ h => h) (Or.inl ⟨by kernel_rfl, ?y13⟩) (by assumption) ?_
      case y13 => (intro w' hSw; (try dsimp only at hSw); go_simp; try with_reducible rfl)
      try simp only [Act.put, List.setIfInBounds_toArray, List.set_cons_zero, List.set_cons_succ]
      refine wpAnyH_take_d (i := 3) (d := some 123) (v := ?v14) rfl rfl (by kernel_rfl) (by kernel_rfl) (by kernel_rfl) (fun _ _ _ h => h) (Or.inl ⟨by kernel_rfl, ?y14⟩) (by assumption) ?_
      case y14 => (intro w' hSw; (try dsimp only at hSw); go_simp; try with_reducible rfl)
      try simp only [Act.put, List.setIfInBounds_toArray, List.set_cons_zero, List.set_cons_succ]
      refine wpAnyH_take_d (i := 4) (d := some 124) (v := ?v15) rfl rfl (by kernel_rfl) (by kernel_rfl) (by kernel_rfl) (fun _ _ _ h => h) (Or.inl ⟨by kernel_rfl, ?y15⟩) (by assumption) ?_
      case y15 => (intro w' hSw; (try dsimp only at hSw); go_simp; try with_reducible rfl)
      try simp only [Act.put, List.setIfInBounds_toArray, List.set_cons_zero, List.set_cons_succ]
      refine wpAnyH_take_d (i := 5) (d := some 125) (v := ?v16) rfl rfl (by kernel_rfl) (by kernel_rfl) (by kernel_rfl) (fun _ _ _ h => h) (Or.inl ⟨by kernel_rfl, ?y16⟩) (by assumption) ?_
      case y16 => (intro w' hSw; (try dsimp only at hSw); go_simp; try with_reducible rfl)
      try simp only [Act.put, List.setIfInBounds_toArray, List.set_cons_zero, List.set_cons_succ]
      refine wpAnyH_take_d (i := 6) (d := some 126) (v := ?v17) rfl rfl (by kernel_rfl) (by kernel_rfl) (by kernel_rfl) (fun _ _ _ h => h) (Or.inl ⟨by kernel_rfl, ?y17⟩) (by assumption) ?_
      case y17 => (intro w' hSw; (try dsimp only at hSw); go_simp; try with_reducible rfl)
      try simp only [Act.put, List.setIfInBounds_toArray, List.set_cons_zero, List.set_cons_succ]
      refine wpAnyH_take_d (i := 7) (d := some 127) (v := ?v18) rfl rfl (by kernel_rfl) (by kernel_rfl) (by kernel_rfl) (fun _ _ _ h => h) (Or.inl ⟨by kernel_rfl, ?y18⟩) (by assumption) ?_
      case y18 => (intro w' hSw; (try dsimp only at hSw); go_simp; try with_reducible rfl)
      try simp only [Act.put, List.setIfInBounds_toArray, List.set_cons_zero, List.set_cons_succ]
      refine wpAnyH_take_d (i := 8) (d := some 128) (v := ?v19) rfl rfl (by kernel_rfl) (by kernel_rfl) (by kernel_rfl) (fun _ _ _ h => h) (Or.inl ⟨by kernel_rfl, ?y19⟩) (by assumption) ?_
      case y19 => (intro w' hSw; (try dsimp only at hSw); go_simp; try with_reducible rfl)
      try simp only [Act.put, List.setIfInBounds_toArray, List.set_cons_zero, List.set_cons_succ]
      refine wpAnyH_take_d (i := 9) (d := some 129) (v := ?v20) rfl rfl (by kernel_rfl) (by kernel_rfl) (by kernel_rfl) (fun _ _ _ h => h) (Or.inl ⟨by kernel_rfl, ?y20⟩) (by assumption) ?_
      case y20 => (intro w' hSw; (try dsimp only at hSw); go_simp; try with_reducible rfl)
      try simp only [Act.put, List.setIfInBounds_toArray, List.set_cons_zero, List.set_cons_succ]
      refine wpAnyH_take_d (i := 10) (d := some 130) (v := ?v21) rfl rfl (by kernel_rfl) (by kernel_rfl) (by kernel_rfl) (fun _ _ _ h => h) (Or.inl ⟨by kernel_rfl, ?y21⟩) (by assumption) ?_
      case y21 => (intro w' hSw; (try dsimp only at hSw); go_simp; try with_reducible rfl)
      try simp only [Act.put, List.setIfInBounds_toArray, List.set_cons_zero, List.set_cons_succ]
      refine wpAnyH_take_d (i := 11) (d := some 131) (v := ?v22) rfl rfl (by kernel_rfl) (by kernel_rfl) (by kernel_rfl) (fun _ _ _ h => h) (Or.inl ⟨by kernel_rfl, ?y22⟩) (by assumption) ?_
      case y22 => (intro w' hSw; (try dsimp only at hSw); go_simp; try with_reducible rfl)
      try simp only [Act.put, List.setIfInBounds_toArray, List.set_cons_zero, List.set_cons_succ]
      refine wpAnyH_take_d (i := 12) (d := some 132) (v := ?v23) rfl rfl (by kernel_rfl) (by kernel_rfl) (by kernel_rfl) (fun _ _ _ h => h) (Or.inl ⟨by kernel_rfl, ?y23⟩) (by assumption) ?_
      case y23 => (intro w' hSw; (try dsimp only at hSw); go_simp; try with_reducible rfl)
      try simp only [Act.put, List.setIfInBounds_toArray, List.set_cons_zero, List.set_cons_succ]
      refine wpAnyH_take_d (i := 13) (d := some 133) (v := ?v24) rfl rfl (by kernel_rfl) (by kernel_rfl) (by kernel_rfl) (fun _ _ _ h => h) (Or.inl ⟨by kernel_rfl, ?y24⟩) (by assumption) ?_
      case y24 => (intro w' hSw; (try dsimp only at hSw); go_simp; try with_reducible rfl)
      try simp only [Act.put, List.setIfInBounds_toArray, List.set_cons_zero, List.set_cons_succ]
      refine wpAnyH_take_d (i := 14) (d := some 134) (v := ?v25) rfl rfl (by kernel_rfl) (by kernel_rfl) (by kernel_rfl) (fun _ _ _ h => h) (Or.inl ⟨by kernel_rfl, ?y25⟩) (by assumption) ?_
      case y25 => (intro w' hSw; (try dsimp only at hSw); go_simp; try with_reducible rfl)
      try simp only [Act.put, List.setIfInBounds_toArray, List.set_cons_zero, List.set_cons_succ]
      refine wpAnyH_take_d (i := 15) (d := some 135) (v := ?v26) rfl rfl (by kernel_rfl) (by kernel_rfl) (by kernel_rfl) (fun _ _ _ h => h) (Or.inl ⟨by kernel_rfl, ?y26⟩) (by assumption) ?_
      case y26 => (intro w' hSw; (try dsimp only at hSw); go_simp; try with_reducible rfl)
      try simp only [Act.put, List.setIfInBounds_toArray, List.set_cons_zero, List.set_cons_succ]
      refine wpAnyH_take_d (i := 16) (d := some 136) (v := ?v27) rfl rfl (by kernel_rfl) (by kernel_rfl) (by kernel_rfl) (fun _ _ _ h => h) (Or.inl ⟨by kernel_rfl, ?y27⟩) (by assumption) ?_
      case y27 => (intro w' hSw; (try dsimp only at hSw); go_simp; try with_reducible rfl)
      try simp only [Act.put, List.setIfInBounds_toArray, List.set_cons_zero, List.set_cons_succ]
      refine wpAnyH_take_d (i := 17) (d := some 137) (v := ?v28) rfl rfl (by kernel_rfl) (by kernel_rfl) (by kernel_rfl) (fun _ _ _ h => h) (Or.inl ⟨by kernel_rfl, ?y28⟩) (by assumption) ?_
      case y28 => (intro w' hSw; (try dsimp only at hSw); go_simp; try with_reducible rfl)
      try simp only [Act.put, List.setIfInBounds_toArray, List.set_cons_zero, List.set_cons_succ]
      refine wpAnyH_take_d (i := 18) (d := some 138) (v := ?v29) rfl rfl (by kernel_rfl) (by kernel_rfl) (by kernel_rfl) (fun _ _ _ h => h) (Or.inl ⟨by kernel_rfl, ?y29⟩) (by assumption) ?_
      case y29 => (intro w' hSw; (try dsimp only at hSw); go_simp; try with_reducible rfl)
      try simp only [Act.put, List.setIfInBounds_toArray, List.set_cons_zero, List.set_cons_succ]
      refine wpAnyH_take_d (i := 19) (d := some 139) (v := ?v30) rfl rfl (by kernel_rfl) (by kernel_rfl) (by kernel_rfl) (fun _ _ _ h => h) (Or.inl ⟨by kernel_rfl, ?y30⟩) (by assumption) ?_
      case y30 => (intro w' hSw; (try dsimp only at hSw); go_simp; try with_reducible rfl)
      try simp only [Act.put, List.setIfInBounds_toArray, List.set_cons_zero, List.set_cons_succ]
      refine wpAnyH_take_d (i := 20) (d := some 140) (v := ?v31) rfl rfl (by kernel_rfl) (by kernel_rfl) (by kernel_rfl) (fun _ _ _ h => h) (Or.inl ⟨by kernel_rfl, ?y31⟩) (by assumption) ?_
      case y31 => (intro w' hSw; (try dsimp only at hSw); go_simp; try with_reducible rfl)
      try simp only [Act.put, List.setIfInBounds_toArray, List.set_cons_zero, List.set_cons_succ]
      refine wpAnyH_take_d (i := 21) (d := some 141) (v := ?v32) rfl rfl (by kernel_rfl) (by kernel_rfl) (by kernel_rfl) (fun _ _ _ h => h) (Or.inl ⟨by kernel_rfl, ?y32⟩) (by assumption) ?_
      case y32 => (intro w' hSw; (try dsimp only at hSw); go_simp; try with_reducible rfl)
      try simp only [Act.put, List.setIfInBounds_toArray, List.set_cons_zero, List.set_cons_succ]
      refine wpAnyH_take_d (i := 22) (d := some 142) (v := ?v33) rfl rfl (by kernel_rfl) (by kernel_rfl) (by kernel_rfl) (fun _ _ _ h => h) (Or.inl ⟨by kernel_rfl, ?y33⟩) (by assumption) ?_
      case y33 => (intro w' hSw; (try dsimp only at hSw); go_simp; try with_reducible rfl)
      try simp only [Act.put, List.setIfInBounds_toArray, List.set_cons_zero, List.set_cons_succ]
      refine wpAnyH_take_d (i := 23) (d := some 143) (v := ?v34) rfl rfl (by kernel_rfl) (by kernel_rfl) (by kernel_rfl) (fun _ _ _ h => h) (Or.inl ⟨by kernel_rfl, ?y34⟩) (by assumption) ?_
      case y34 => (intro w' hSw; (try dsimp only at hSw); go_simp; try with_reducible rfl)
      try simp only [Act.put, List.setIfInBounds_toArray, List.set_cons_zero, List.set_cons_succ]
      refine wpAnyH_take_d (i := 24) (d := some 144) (v := ?v35) rfl rfl (by kernel_rfl) (by kernel_rfl) (by kernel_rfl) (fun _ _ _ h => h) (Or.inl ⟨by kernel_rfl, ?y35⟩) (by assumption) ?_
      case y35 => (intro w' hSw; (try dsimp only at hSw); go_simp; try with_reducible rfl)
      try simp only [Act.put, List.setIfInBounds_toArray, List.set_cons_zero, List.set_cons_succ]
      refine wpAnyH_take_d (i := 25) (d := some 145) (v := ?v36) rfl rfl (by kernel_rfl) (by kernel_rfl) (by kernel_rfl) (fun _ _ _ h => h) (Or.inl ⟨by kernel_rfl, ?y36⟩) (by assumption) ?_
      case y36 => (intro w' hSw; (try dsimp only at hSw); go_simp; try with_reducible rfl)
      try simp only [Act.put, List.setIfInBounds_toArray, List.set_cons_zero, List.set_cons_succ]
      refine wpAnyH_take_d (i := 26) (d := some 146) (v := ?v37) rfl rfl (by kernel_rfl) (by kernel_rfl) (by kernel_rfl) (fun _ _ _ h => h) (Or.inl ⟨by kernel_rfl, ?y37⟩) (by assumption) ?_
      case y37 => (intro w' hSw; (try dsimp only at hSw); go_simp; try with_reducible rfl)
      try simp only [Act.put, List.setIfInBounds_toArray, List.set_cons_zero, List.set_cons_succ]
      refine wpAnyH_take_d (i := 27) (d := some 147) (v := ?v38) rfl rfl (by kernel_rfl) (by kernel_rfl) (by kernel_rfl) (fun _ _ _ h => h) (Or.inl ⟨by kernel_rfl, ?y38⟩) (by assumption) ?_
      case y38 => (intro w' hSw; (try dsimp only at hSw); go_simp; try with_reducible rfl)
      try simp only [Act.put, List.setIfInBounds_toArray, List.set_cons_zero, List.set_cons_succ]
      refine wpAnyH_take_d (i := 28) (d := some 148) (v := ?v39) rfl rfl (by kernel_rfl) (by kernel_rfl) (by kernel_rfl) (fun _ _ _ h => h) (Or.inl ⟨by kernel_rfl, ?y39⟩) (by assumption) ?_
      case y39 => (intro w' hSw; (try dsimp only at hSw); go_simp; try with_reducible rfl)
      try simp only [Act.put, List.setIfInBounds_toArray, List.set_cons_zero, List.set_cons_succ]
      refine wpAnyH_take_d (i := 29) (d := some 149) (v := ?v40) rfl rfl (by kernel_rfl) (by kernel_rfl) (by kernel_rfl) (fun _ _ _ h => h) (Or.inl ⟨by kernel_rfl, ?y40⟩) (by assumption) ?_
      case y40 => (intro w' hSw; (try dsimp only at hSw); go_simp; try with_reducible rfl)
      try simp only [Act.put, List.setIfInBounds_toArray, List.set_cons_zero, List.set_cons_succ]
      refine wpAnyH_take_d (i := 30) (d := some 150) (v := ?v41) rfl rfl (by kernel_rfl) (by kernel_rfl) (by kernel_rfl) (fun _ _ _ h => h) (Or.inl ⟨by kernel_rfl, ?y41⟩) (by assumption) ?_
      case y41 => (intro w' hSw; (try dsimp only at hSw); go_simp; try with_reducible rfl)
      try simp only [Act.put, List.setIfInBounds_toArray, List.set_cons_zero, List.set_cons_succ]
      refine wpAnyH_take_d (i := 31) (d := some 151) (v := ?v42) rfl rfl (by kernel_rfl) (by kernel_rfl) (by kernel_rfl) (fun _ _ _ h => h) (Or.inl ⟨by kernel_rfl, ?y42⟩) (by assumption) ?_
      case y42 => (intro w' hSw; (try dsimp only at hSw); go_simp; try with_reducible rfl)
      try simp only [Act.put, List.setIfInBounds_toArray, List.set_cons_zero, List.set_cons_succ]
      refine wpAnyH_take_d (i := 32) (d := some 152) (v := ?v43) rfl rfl (by kernel_rfl) (by kernel_rfl) (by kernel_rfl) (fun _ _ _ h => h) (Or.inl ⟨by kernel_rfl, ?y43⟩) (by assumption) ?_
      case y43 => (intro w' hSw; (try dsimp only at hSw); go_simp; try with_reducible rfl)
      try simp only [Act.put, List.setIfInBounds_toArray, List.set_cons_zero, List.set_cons_succ]
      refine wpAnyH_take_d (i := 33) (d := some 153) (v := ?v44) rfl rfl (by kernel_rfl) (by kernel_rfl) (by kernel_rfl) (fun _ _ _ h => h) (Or.inl ⟨by kernel_rfl, ?y44⟩) (by assumption) ?_
      case y44 => (intro w' hSw; (try dsimp only at hSw); go_simp; try with_reducible rfl)
      try simp only [Act.put, List.setIfInBounds_toArray, List.set_cons_zero, List.set_cons_succ]
      refine wpAnyH_take_d (i := 34) (d := some 154) (v := ?v45) rfl rfl (by kernel_rfl) (by kernel_rfl) (by kernel_rfl) (fun _ _ _ h => h) (Or.inl ⟨by kernel_rfl, ?y45⟩) (by assumption) ?_
      case y45 => (intro w' hSw; (try dsimp only at hSw); go_simp; try with_reducible rfl)
      try simp only [Act.put, List.setIfInBounds_toArray, List.set_cons_zero, List.set_cons_succ]
      have hS2 : (w10.drew.alloc (.cells #[.int .i64 x0, .int .i64 r0, .int .i64 x1, .int .i64 r1] 40)).cell? ⟨w.heap.size, 1, none⟩ = some (.slice (some ⟨bA, oA, none⟩) L c) ∧ (w10.drew.alloc (.cells #[.int .i64 x0, .int .i64 r0, .int .i64 x1, .int .i64 r1] 40)).cell? ⟨bA, oA + i * 2, none⟩ = some (.int .i64 x0) ∧ (w10.drew.alloc (.cells #[.int .i64 x0, .int .i64 r0, .int .i64 x1, .int .i64 r1] 40)).cell? ⟨bA, oA + i * 2 + 1, none⟩ = some (.int .i64 x1) ∧ (w10.drew.alloc (.cells #[.int .i64 x0, .int .i64 r0, .int .i64 x1, .int .i64 r1] 40)).cell? ⟨ga, 0, none⟩ = some (.int .i64 (s0 : Int)) ∧ (w10.drew.alloc (.cells #[.int .i64 x0, .int .i64 r0, .int .i64 x1, .int .i64 r1] 40)).cell? ⟨ga, 1, none⟩ = some (.int .i64 (s1 : Int)) ∧ (w10.drew.alloc (.cells #[.int .i64 x0, .int .i64 r0, .int .i64 x1, .int .i64 r1] 40)).cell? ⟨gi, p0, none⟩ = some (.int .i64 r0) ∧ (w10.drew.alloc (.cells #[.int .i64 x0, .int .i64 r0, .int .i64 x1, .int .i64 r1] 40)).cell? ⟨gi, p1, none⟩ = some (.int .i64 r1) := ⟨((bcell hB3).1 _ _ q1).trans f0, ((bcell hB3).1 _ _ q2).trans f1, ((bcell hB3).1 _ _ q2).trans f2, ((bcell hB3).1 _ _ q3).trans f3, ((bcell hB3).1 _ _ q3).trans f4, ((bcell hB3).1 _ _ q4).trans f5, ((bcell hB3).1 _ _ q4).trans f6⟩
      refine wpAnyH_ready (rs := [35]) (by kernel_rfl) (by simp) ?_
      refine AllReadyH.cons rfl (fun K hK => ?_) AllReadyH.nil
      go_simp
      refine hK.out _ _ ?s46 (fun hHeld46 => ?_)
      case s46 => ((try dsimp only); (first | exact hS3 | exact hS2 | exact ⟨f0, f1, f2, f3, f4, f5, f6⟩ | assumption | (first | go_keep | (obtain ⟨hq, _⟩ := bcell ‹Below _ _ _›; (repeat' apply And.intro) <;> (rw [hq _ _ (by first | assumption | omega | (simp; done) | (simp; omega) | (simp; assumption))] <;> (first | assumption | (simp [*]; done)))))))
      clear hK K hHeld
      have hHeld := hHeld46; clear hHeld46
      try simp only [Act.put, List.setIfInBounds_toArray, List.set_cons_zero, List.set_cons_succ]
      refine wpAnyH_ready (rs := [36]) (by kernel_rfl) (by simp) ?_
      refine AllReadyH.cons rfl (fun K hK => ?_) AllReadyH.nil
      simp only [List.getElem_toArray, List.getElem_cons_succ, List.getElem_cons_zero]
      refine wp_appendE rfl w7.heap.size _ (KN + q0) (D0 ++ Q0) rfl hown2 w10.heap.size 0 2 2 [(x0, r0), (x1, r1)] rfl rfl hnew (by have := HKq.out; omega) (by omega) (by simp; omega) ?_
      intro v' w11 hown3 hfr hgr
      have b31 := hfr w.heap.size w (by omega) hb9
      have b37 := hfr w7.heap.size (w10.drew.alloc (.cells #[.int .i64 x0, .int .i64 r0, .int .i64 x1, .int .i64 r1] 40)) (Nat.le_refl _) (Below.refl _ _)
      have hA3 := own_same (own_below HA10.out hB3) fun t cs ht hB => hB.grown' hown2 hgr (by rw [ht]; decide)
      have hB33 := own_same (own_below HB10.out hB3) fun t cs ht hB => hB.grown' hown2 hgr (by rw [ht]; decide)
      have hI3 := own_same (own_below HI10.out hB3) fun t cs ht hB => hB.grown' hown2 hgr (by rw [ht]; decide)
      have hG3 := (KG10.out.below hB3 q1).grown' hown2 hgr (by decide)
      have hS3 : w11.cell? ⟨w.heap.size, 1, none⟩ = some (.slice (some ⟨bA, oA, none⟩) L c) ∧ w11.cell? ⟨bA, oA + i * 2, none⟩ = some (.int .i64 x0) ∧ w11.cell? ⟨bA, oA + i * 2 + 1, none⟩ = some (.int .i64 x1) ∧ w11.cell? ⟨ga, 0, none⟩ = some (.int .i64 (s0 : Int)) ∧ w11.cell? ⟨ga, 1, none⟩ = some (.int .i64 (s1 : Int)) ∧ w11.cell? ⟨gi, p0, none⟩ = some (.int .i64 r0) ∧ w11.cell? ⟨gi, p1, none⟩ = some (.int .i64 r1) := ⟨hG3.cellAt 1 _ rfl, (((bcell b31).1 bA (oA + i * 2) hbA).trans hcE.1).trans (by rw [hx]), (((bcell b31).1 bA (oA + i * 2 + 1) hbA).trans hcE.2).trans (by rw [hx]), own_cellI hA3 rfl (by decide), own_cellI hA3 rfl (by decide), (by have h := own_cellI hI3 HXl.out HpP.out.1.1; rw [Hn0.out] at h; exact h), (by have h := own_cellI hI3 HXl.out HpP.out.1.2; rw [Hn1.out] at h; exact h)⟩
      refine hK.out _ _ ?s47 (fun hHeld47 => ?_)
      case s47 => ((try dsimp only); (first | exact hS3 | exact hS2 | exact ⟨f0, f1, f2, f3, f4, f5, f6⟩ | assumption | (first | go_keep | (obtain ⟨hq, _⟩ := bcell ‹Below _ _ _›; (repeat' apply And.intro) <;> (rw [hq _ _ (by first | assumption | omega | (simp; done) | (simp; omega) | (simp; assumption))] <;> (first | assumption | (simp [*]; done)))))))
      clear hK K hHeld
      have hHeld := hHeld47; clear hHeld47
      try simp only [Act.put, List.setIfInBounds_toArray, List.set_cons_zero, List.set_cons_succ]
      refine wpAnyH_take_d (i := 37) (d := some 18) (v := ?v48) rfl rfl (by kernel_rfl) (by kernel_rfl) (by kernel_rfl) (fun _ _ _ h => h) (Or.inl ⟨by kernel_rfl, ?y48⟩) (by assumption) ?_
      case y48 => (intro w' hSw; (try dsimp only at hSw); go_simp; try with_reducible rfl)
      try simp only [Act.put, List.setIfInBounds_toArray, List.set_cons_zero, List.set_cons_succ]
      refine wpAnyH_done (by kernel_rfl) ?_ _
      refine NoPanic.normal ?_
      obtain ⟨A11, c11, rfl⟩ := own_form hown3
      have HO11 : Hid (w11.ownsRow w7.heap.size 40 2 (.slice A11 (KN + q0 + 2) c11) (KN + q0 + 2) (cE ((D0 ++ Q0) ++ [(x0, r0), (x1, r1)]))) := hown3
      have HA11 := Lib.hid hA3
      have HB11 := Lib.hid hB33
      have HI11 := Lib.hid hI3
      have KG11 := Lib.hid hG3
      have KH11 := Lib.hid ((KH10.out.below hB3 qh).grown' hown2 hgr (by decide))
      have HZ11 := Lib.hid ((HZ10.out.below hB3 qz).grown' hown2 hgr (by decide))
      have Hb11 := Lib.hid b31
      have hz11 : Hid (w7.heap.size ≤ w11.heap.size) := Nat.le_trans (Nat.le_trans hz10.out hB3.size) b37.size
      clear hHeld hS2 hS3 hA3 hB33 hI3 hG3 hown3 hfr hgr b31 b37 hown2 hnew hB3 hb9 hzz b0 f0 f1 f2 f3 f4 f5 f6 q1 q2 q3 q4 qz qh HO10 HA10 HB10 HI10 KG10 KH10 HZ10 Hb10 hz10
      have b0 := Hb11.out
      have f0 := KG11.out.cellAt 1 _ rfl
      have f1 := ((bcell b0).1 bA (oA + j * 2) hbA).trans hcF.1
      have f2 := ((bcell b0).1 bA (oA + j * 2 + 1) hbA).trans hcF.2
      rw [hy] at f1 f2
      dsimp only at f1 f2
      have f3 : w11.cell? ⟨gb, 0, none⟩ = some (.int .i64 (s2 : Int)) := own_cellI HB11.out rfl (by decide)
      have f4 : w11.cell? ⟨gb, 1, none⟩ = some (.int .i64 (s3 : Int)) := own_cellI HB11.out rfl (by decide)
      have f5 : w11.cell? ⟨gi, p2, none⟩ = some (.int .i64 r2) := by have h := own_cellI HI11.out HXl.out HpP.out.2.1; rw [Hn2.out] at h; exact h
      have f6 : w11.cell? ⟨gi, p3, none⟩ = some (.int .i64 r3) := by have h := own_cellI HI11.out HXl.out HpP.out.2.2; rw [Hn3.out] at h; exact h
      have q1 := KG11.out.lt
      have q2 : bA < w11.heap.size := by have := b0.size; omega
      have q3 := (HB11.out.lt gb rfl).2
      have q4 := (HI11.out.lt gi rfl).2
      have qz := HZ11.out.lt
      have qh := KH11.out.lt
      have hB3 : Below w11.heap.size w11 (w11.drew.alloc (.cells #[.int .i64 y0, .int .i64 r2, .int .i64 y1, .int .i64 r3] 40)) := by (repeat' (first | (with_reducible exact Below.refl _ _) | (with_reducible assumption) | (with_reducible refine Below.alloc ?_ ?_ _) | (with_reducible refine Below.drew ?_) | (with_reducible refine below_drewN ?_ _) | (with_reducible refine Below.setCell ?_ ?_ _) | (with_reducible refine Below.trans ?_ (Below.mono (by assumption) ?_)) | (first | omega | (simp only [World.size_alloc, World.size_setCell, World.size_drew]; omega) | (simp; omega) | (simp; done))))
      have hown2 := own_below HO11.out hB3
      have hnew : RdE (w11.drew.alloc (.cells #[.int .i64 y0, .int .i64 r2, .int .i64 y1, .int .i64 r3] 40)) (some ⟨w11.heap.size, 0, none⟩) [(y0, r2), (y1, r3)] := blkE_rd (t := 40) (es := [(y0, r2), (y1, r3)]) (Blk.new' (n := w11.heap.size) _ (by simp))
      have hb9 : Below w.heap.size w (w11.drew.alloc (.cells #[.int .i64 y0, .int .i64 r2, .int .i64 y1, .int .i64 r3] 40)) := b0.trans (hB3.mono b0.size)
      have hzz := hz11.out
      go_wp2_with fail
      refine wp_region_noPanic ?_
      refine wp_region_held_drew (S := (fun w' => w'.cell? ⟨w.heap.size, 1, none⟩ = some (.slice (some ⟨bA, oA, none⟩) L c) ∧ w'.cell? ⟨bA, oA + j * 2, none⟩ = some (.int .i64 y0) ∧ w'.cell? ⟨bA, oA + j * 2 + 1, none⟩ = some (.int .i64 y1) ∧ w'.cell? ⟨gb, 0, none⟩ = some (.int .i64 (s2 : Int)) ∧ w'.cell? ⟨gb, 1, none⟩ = some (.int .i64 (s3 : Int)) ∧ w'.cell? ⟨gi, p2, none⟩ = some (.int .i64 r2) ∧ w'.cell? ⟨gi, p3, none⟩ = some (.int .i64 r3))) (by kernel_rfl) ?_ (fun hHeld => ?_)
      · (try dsimp only); (first | exact hS3 | exact hS2 | exact ⟨f0, f1, f2, f3, f4, f5, f6⟩ | assumption | (first | go_keep | (obtain ⟨hq, _⟩ := bcell ‹Below _ _ _›; (repeat' apply And.intro) <;> (rw [hq _ _ (by first | assumption | omega | (simp; done) | (simp; omega) | (simp; assumption))] <;> (first | assumption | (simp [*]; done))))))
      refine wpAnyH_take_d (i := 0) (d := some 157) (v := ?v49) rfl rfl (by kernel_rfl) (by kernel_rfl) (by kernel_rfl) (fun _ _ _ h => h) (Or.inl ⟨by kernel_rfl, ?y49⟩) (by assumption) ?_
      case y49 => (intro w' hSw; (try dsimp only at hSw); go_simp; try with_reducible rfl)
      try simp only [Act.put, List.setIfInBounds_toArray, List.set_cons_zero, List.set_cons_succ]
      refine wpAnyH_take_d (i := 1) (d := some 158) (v := ?v50) rfl rfl (by kernel_rfl) (by kernel_rfl) (by kernel_rfl) (fun _ _ _ h => h) (Or.inl ⟨by kernel_rfl, ?y50⟩) (by assumption) ?_
      case y50 => (intro w' hSw; (try dsimp only at hSw); go_simp; try with_reducible rfl)
      try simp only [Act.put, List.setIfInBounds_toArray, List.set_cons_zero, List.set_cons_succ]
      refine wpAnyH_take_d (i := 2) (d := some 159) (v := ?v51) rfl rfl (by kernel_rfl) (by kernel_rfl) (by kernel_rfl) (fun _ _ _ h => h) (Or.inl ⟨by kernel_rfl, ?y51⟩) (by assumption) ?_
      case y51 => (intro w' hSw; (try dsimp only at hSw); go_simp; try with_reducible rfl)
      try simp only [Act.put, List.setIfInBounds_toArray, List.set_cons_zero, List.set_cons_succ]
      refine wpAnyH_take_d (i := 3) (d := some 160) (v := ?v52) rfl rfl (by kernel_rfl) (by kernel_rfl) (by kernel_rfl) (fun _ _ _ h => h) (Or.inl ⟨by kernel_rfl, ?y52⟩) (by assumption) ?_
      case y52 => (intro w' hSw; (try dsimp only at hSw); go_simp; try with_reducible rfl)
      try simp only [Act.put, List.setIfInBounds_toArray, List.set_cons_zero, List.set_cons_succ]
      refine wpAnyH_take_d (i := 4) (d := some 161) (v := ?v53) rfl rfl (by kernel_rfl) (by kernel_rfl) (by kernel_rfl) (fun _ _ _ h => h) (Or.inl ⟨by kernel_rfl, ?y53⟩) (by assumption) ?_
      case y53 => (intro w' hSw; (try dsimp only at hSw); go_simp; try with_reducible rfl)
      try simp only [Act.put, List.setIfInBounds_toArray, List.set_cons_zero, List.set_cons_succ]
      refine wpAnyH_take_d (i := 5) (d := some 162) (v := ?v54) rfl rfl (by kernel_rfl) (by kernel_rfl) (by kernel_rfl) (fun _ _ _ h => h) (Or.inl ⟨by kernel_rfl, ?y54⟩) (by assumption) ?_
      case y54 => (intro w' hSw; (try dsimp only at hSw); go_simp; try with_reducible rfl)
      try simp only [Act.put, List.setIfInBounds_toArray, List.set_cons_zero, List.set_cons_succ]
      refine wpAnyH_take_d (i := 6) (d := some 163) (v := ?v55) rfl rfl (by kernel_rfl) (by kernel_rfl) (by kernel_rfl) (fun _ _ _ h => h) (Or.inl ⟨by kernel_rfl, ?y55⟩) (by assumption) ?_
      case y55 => (intro w' hSw; (try dsimp only at hSw); go_simp; try with_reducible rfl)
      try simp only [Act.put, List.setIfInBounds_toArray, List.set_cons_zero, List.set_cons_succ]
      refine wpAnyH_take_d (i := 7) (d := some 164) (v := ?v56) rfl rfl (by kernel_rfl) (by kernel_rfl) (by kernel_rfl) (fun _ _ _ h => h) (Or.inl ⟨by kernel_rfl, ?y56⟩) (by assumption) ?_
      case y56 => (intro w' hSw; (try dsimp only at hSw); go_simp; try with_reducible rfl)
      try simp only [Act.put, List.setIfInBounds_toArray, List.set_cons_zero, List.set_cons_succ]
      refine wpAnyH_take_d (i := 8) (d := some 165) (v := ?v57) rfl rfl (by kernel_rfl) (by kernel_rfl) (by kernel_rfl) (fun _ _ _ h => h) (Or.inl ⟨by kernel_rfl, ?y57⟩) (by assumption) ?_
      case y57 => (intro w' hSw; (try dsimp only at hSw); go_simp; try with_reducible rfl)
      try simp only [Act.put, List.setIfInBounds_toArray, List.set_cons_zero, List.set_cons_succ]
      refine wpAnyH_take_d (i := 9) (d := some 166) (v := ?v58) rfl rfl (by kernel_rfl) (by kernel_rfl) (by kernel_rfl) (fun _ _ _ h => h) (Or.inl ⟨by kernel_rfl, ?y58⟩) (by assumption) ?_
      case y58 => (intro w' hSw; (try dsimp only at hSw); go_simp; try with_reducible rfl)
      try simp only [Act.put, List.setIfInBounds_toArray, List.set_cons_zero, List.set_cons_succ]
      refine wpAnyH_take_d (i := 10) (d := some 167) (v := ?v59) rfl rfl (by kernel_rfl) (by kernel_rfl) (by kernel_rfl) (fun _ _ _ h => h) (Or.inl ⟨by kernel_rfl, ?y59⟩) (by assumption) ?_
      case y59 => (intro w' hSw; (try dsimp only at hSw); go_simp; try with_reducible rfl)
      try simp only [Act.put, List.setIfInBounds_toArray, List.set_cons_zero, List.set_cons_succ]
      refine wpAnyH_take_d (i := 11) (d := some 168) (v := ?v60) rfl rfl (by kernel_rfl) (by kernel_rfl) (by kernel_rfl) (fun _ _ _ h => h) (Or.inl ⟨by kernel_rfl, ?y60⟩) (by assumption) ?_
      case y60 => (intro w' hSw; (try dsimp only at hSw); go_simp; try with_reducible rfl)
      try simp only [Act.put, List.setIfInBounds_toArray, List.set_cons_zero, List.set_cons_succ]
      refine wpAnyH_take_d (i := 12) (d := some 169) (v := ?v61) rfl rfl (by kernel_rfl) (by kernel_rfl) (by kernel_rfl) (fun _ _ _ h => h) (Or.inl ⟨by kernel_rfl, ?y61⟩) (by assumption) ?_
      case y61 => (intro w' hSw; (try dsimp only at hSw); go_simp; try with_reducible rfl)
      try simp only [Act.put, List.setIfInBounds_toArray, List.set_cons_zero, List.set_cons_succ]
      refine wpAnyH_take_d (i := 13) (d := some 170) (v := ?v62) rfl rfl (by kernel_rfl) (by kernel_rfl) (by kernel_rfl) (fun _ _ _ h => h) (Or.inl ⟨by kernel_rfl, ?y62⟩) (by assumption) ?_
      case y62 => (intro w' hSw; (try dsimp only at hSw); go_simp; try with_reducible rfl)
      try simp only [Act.put, List.setIfInBounds_toArray, List.set_cons_zero, List.set_cons_succ]
      refine wpAnyH_take_d (i := 14) (d := some 171) (v := ?v63) rfl rfl (by kernel_rfl) (by kernel_rfl) (by kernel_rfl) (fun _ _ _ h => h) (Or.inl ⟨by kernel_rfl, ?y63⟩) (by assumption) ?_
      case y63 => (intro w' hSw; (try dsimp only at hSw); go_simp; try with_reducible rfl)
      try simp only [Act.put, List.setIfInBounds_toArray, List.set_cons_zero, List.set_cons_succ]
      refine wpAnyH_take_d (i := 15) (d := some 172) (v := ?v64) rfl rfl (by kernel_rfl) (by kernel_rfl) (by kernel_rfl) (fun _ _ _ h => h) (Or.inl ⟨by kernel_rfl, ?y64⟩) (by assumption) ?_
      case y64 => (intro w' hSw; (try dsimp only at hSw); go_simp; try with_reducible rfl)
      try simp only [Act.put, List.setIfInBounds_toArray, List.set_cons_zero, List.set_cons_succ]
      refine wpAnyH_take_d (i := 16) (d := some 173) (v := ?v65) rfl rfl (by kernel_rfl) (by kernel_rfl) (by kernel_rfl) (fun _ _ _ h => h) (Or.inl ⟨by kernel_rfl, ?y65⟩) (by assumption) ?_
      case y65 => (intro w' hSw; (try dsimp only at hSw); go_simp; try with_reducible rfl)
      try simp only [Act.put, List.setIfInBounds_toArray, List.set_cons_zero, List.set_cons_succ]
      refine wpAnyH_take_d (i := 17) (d := some 174) (v := ?v66) rfl rfl (by kernel_rfl) (by kernel_rfl) (by kernel_rfl) (fun _ _ _ h => h) (Or.inl ⟨by kernel_rfl, ?y66⟩) (by assumption) ?_
      case y66 => (intro w' hSw; (try dsimp only at hSw); go_simp; try with_reducible rfl)
      try simp only [Act.put, List.setIfInBounds_toArray, List.set_cons_zero, List.set_cons_succ]
      refine wpAnyH_take_d (i := 18) (d := some 175) (v := ?v67) rfl rfl (by kernel_rfl) (by kernel_rfl) (by kernel_rfl) (fun _ _ _ h => h) (Or.inl ⟨by kernel_rfl, ?y67⟩) (by assumption) ?_
      case y67 => (intro w' hSw; (try dsimp only at hSw); go_simp; try with_reducible rfl)
      try simp only [Act.put, List.setIfInBounds_toArray, List.set_cons_zero, List.set_cons_succ]
      refine wpAnyH_take_d (i := 19) (d := some 176) (v := ?v68) rfl rfl (by kernel_rfl) (by kernel_rfl) (by kernel_rfl) (fun _ _ _ h => h) (Or.inl ⟨by kernel_rfl, ?y68⟩) (by assumption) ?_
      case y68 => (intro w' hSw; (try dsimp only at hSw); go_simp; try with_reducible rfl)
      try simp only [Act.put, List.setIfInBounds_toArray, List.set_cons_zero, List.set_cons_succ]
      refine wpAnyH_take_d (i := 20) (d := some 177) (v := ?v69) rfl rfl (by kernel_rfl) (by kernel_rfl) (by kernel_rfl) (fun _ _ _ h => h) (Or.inl ⟨by kernel_rfl, ?y69⟩) (by assumption) ?_
      case y69 => (intro w' hSw; (try dsimp only at hSw); go_simp; try with_reducible rfl)
      try simp only [Act.put, List.setIfInBounds_toArray, List.set_cons_zero, List.set_cons_succ]
      refine wpAnyH_take_d (i := 21) (d := some 178) (v := ?v70) rfl rfl (by kernel_rfl) (by kernel_rfl) (by kernel_rfl) (fun _ _ _ h => h) (Or.inl ⟨by kernel_rfl, ?y70⟩) (by assumption) ?_
      case y70 => (intro w' hSw; (try dsimp only at hSw); go_simp; try with_reducible rfl)
      try simp only [Act.put, List.setIfInBounds_toArray, List.set_cons_zero, List.set_cons_succ]
      refine wpAnyH_take_d (i := 22) (d := some 179) (v := ?v71) rfl rfl (by kernel_rfl) (by kernel_rfl) (by kernel_rfl) (fun _ _ _ h => h) (Or.inl ⟨by kernel_rfl, ?y71⟩) (by assumption) ?_
      case y71 => (intro w' hSw; (try dsimp only at hSw); go_simp; try with_reducible rfl)
      try simp only [Act.put, List.setIfInBounds_toArray, List.set_cons_zero, List.set_cons_succ]
      refine wpAnyH_take_d (i := 23) (d := some 180) (v := ?v72) rfl rfl (by kernel_rfl) (by kernel_rfl) (by kernel_rfl) (fun _ _ _ h => h) (Or.inl ⟨by kernel_rfl, ?y72⟩) (by assumption) ?_
      case y72 => (intro w' hSw; (try dsimp only at hSw); go_simp; try with_reducible rfl)
      try simp only [Act.put, List.setIfInBounds_toArray, List.set_cons_zero, List.set_cons_succ]
      refine wpAnyH_take_d (i := 24) (d := some 181) (v := ?v73) rfl rfl (by kernel_rfl) (by kernel_rfl) (by kernel_rfl) (fun _ _ _ h => h) (Or.inl ⟨by kernel_rfl, ?y73⟩) (by assumption) ?_
      case y73 => (intro w' hSw; (try dsimp only at hSw); go_simp; try with_reducible rfl)
      try simp only [Act.put, List.setIfInBounds_toArray, List.set_cons_zero, List.set_cons_succ]
      refine wpAnyH_take_d (i := 25) (d := some 182) (v := ?v74) rfl rfl (by kernel_rfl) (by kernel_rfl) (by kernel_rfl) (fun _ _ _ h => h) (Or.inl ⟨by kernel_rfl, ?y74⟩) (by assumption) ?_
      case y74 => (intro w' hSw; (try dsimp only at hSw); go_simp; try with_reducible rfl)
      try simp only [Act.put, List.setIfInBounds_toArray, List.set_cons_zero, List.set_cons_succ]
      refine wpAnyH_take_d (i := 26) (d := some 183) (v := ?v75) rfl rfl (by kernel_rfl) (by kernel_rfl) (by kernel_rfl) (fun _ _ _ h => h) (Or.inl ⟨by kernel_rfl, ?y75⟩) (by assumption) ?_
      case y75 => (intro w' hSw; (try dsimp only at hSw); go_simp; try with_reducible rfl)
      try simp only [Act.put, List.setIfInBounds_toArray, List.set_cons_zero, List.set_cons_succ]
      refine wpAnyH_take_d (i := 27) (d := some 184) (v := ?v76) rfl rfl (by kernel_rfl) (by kernel_rfl) (by kernel_rfl) (fun _ _ _ h => h) (Or.inl ⟨by kernel_rfl, ?y76⟩) (by assumption) ?_
      case y76 => (intro w' hSw; (try dsimp only at hSw); go_simp; try with_reducible rfl)
      try simp only [Act.put, List.setIfInBounds_toArray, List.set_cons_zero, List.set_cons_succ]
      refine wpAnyH_take_d (i := 28) (d := some 185) (v := ?v77) rfl rfl (by kernel_rfl) (by kernel_rfl) (by kernel_rfl) (fun _ _ _ h => h) (Or.inl ⟨by kernel_rfl, ?y77⟩) (by assumption) ?_
      case y77 => (intro w' hSw; (try dsimp only at hSw); go_simp; try with_reducible rfl)
      try simp only [Act.put, List.setIfInBounds_toArray, List.set_cons_zero, List.set_cons_succ]
      refine wpAnyH_take_d (i := 29) (d := some 186) (v := ?v78) rfl rfl (by kernel_rfl) (by kernel_rfl) (by kernel_rfl) (fun _ _ _ h => h) (Or.inl ⟨by kernel_rfl, ?y78⟩) (by assumption) ?_
      case y78 => (intro w' hSw; (try dsimp only at hSw); go_simp; try with_reducible rfl)
      try simp only [Act.put, List.setIfInBounds_toArray, List.set_cons_zero, List.set_cons_succ]
      refine wpAnyH_take_d (i := 30) (d := some 187) (v := ?v79) rfl rfl (by kernel_rfl) (by kernel_rfl) (by kernel_rfl) (fun _ _ _ h => h) (Or.inl ⟨by kernel_rfl, ?y79⟩) (by assumption) ?_
      case y79 => (intro w' hSw; (try dsimp only at hSw); go_simp; try with_reducible rfl)
      try simp only [Act.put, List.setIfInBounds_toArray, List.set_cons_zero, List.set_cons_succ]
      refine wpAnyH_take_d (i := 31) (d := some 188) (v := ?v80) rfl rfl (by kernel_rfl) (by kernel_rfl) (by kernel_rfl) (fun _ _ _ h => h) (Or.inl ⟨by kernel_rfl, ?y80⟩) (by assumption) ?_
      case y80 => (intro w' hSw; (try dsimp only at hSw); go_simp; try with_reducible rfl)
      try simp only [Act.put, List.setIfInBounds_toArray, List.set_cons_zero, List.set_cons_succ]
      refine wpAnyH_take_d (i := 32) (d := some 189) (v := ?v81) rfl rfl (by kernel_rfl) (by kernel_rfl) (by kernel_rfl) (fun _ _ _ h => h) (Or.inl ⟨by kernel_rfl, ?y81⟩) (by assumption) ?_
      case y81 => (intro w' hSw; (try dsimp only at hSw); go_simp; try with_reducible rfl)
      try simp only [Act.put, List.setIfInBounds_toArray, List.set_cons_zero, List.set_cons_succ]
      refine wpAnyH_take_d (i := 33) (d := some 190) (v := ?v82) rfl rfl (by kernel_rfl) (by kernel_rfl) (by kernel_rfl) (fun _ _ _ h => h) (Or.inl ⟨by kernel_rfl, ?y82⟩) (by assumption) ?_
      case y82 => (intro w' hSw; (try dsimp only at hSw); go_simp; try with_reducible rfl)
      try simp only [Act.put, List.setIfInBounds_toArray, List.set_cons_zero, List.set_cons_succ]
      refine wpAnyH_take_d (i := 34) (d := some 191) (v := ?v83) rfl rfl (by kernel_rfl) (by kernel_rfl) (by kernel_rfl) (fun _ _ _ h => h) (Or.inl ⟨by kernel_rfl, ?y83⟩) (by assumption) ?_
      case y83 => (intro w' hSw; (try dsimp only at hSw); go_simp; try with_reducible rfl)
      try simp only [Act.put, List.setIfInBounds_toArray, List.set_cons_zero, List.set_cons_succ]
      have hS2 : (w11.drew.alloc (.cells #[.int .i64 y0, .int .i64 r2, .int .i64 y1, .int .i64 r3] 40)).cell? ⟨w.heap.size, 1, none⟩ = some (.slice (some ⟨bA, oA, none⟩) L c) ∧ (w11.drew.alloc (.cells #[.int .i64 y0, .int .i64 r2, .int .i64 y1, .int .i64 r3] 40)).cell? ⟨bA, oA + j * 2, none⟩ = some (.int .i64 y0) ∧ (w11.drew.alloc (.cells #[.int .i64 y0, .int .i64 r2, .int .i64 y1, .int .i64 r3] 40)).cell? ⟨bA, oA + j * 2 + 1, none⟩ = some (.int .i64 y1) ∧ (w11.drew.alloc (.cells #[.int .i64 y0, .int .i64 r2, .int .i64 y1, .int .i64 r3] 40)).cell? ⟨gb, 0, none⟩ = some (.int .i64 (s2 : Int)) ∧ (w11.drew.alloc (.cells #[.int .i64 y0, .int .i64 r2, .int .i64 y1, .int .i64 r3] 40)).cell? ⟨gb, 1, none⟩ = some (.int .i64 (s3 : Int)) ∧ (w11.drew.alloc (.cells #[.int .i64 y0, .int .i64 r2, .int .i64 y1, .int .i64 r3] 40)).cell? ⟨gi, p2, none⟩ = some (.int .i64 r2) ∧ (w11.drew.alloc (.cells #[.int .i64 y0, .int .i64 r2, .int .i64 y1, .int .i64 r3] 40)).cell? ⟨gi, p3, none⟩ = some (.int .i64 r3) := ⟨((bcell hB3).1 _ _ q1).trans f0, ((bcell hB3).1 _ _ q2).trans f1, ((bcell hB3).1 _ _ q2).trans f2, ((bcell hB3).1 _ _ q3).trans f3, ((bcell hB3).1 _ _ q3).trans f4, ((bcell hB3).1 _ _ q4).trans f5, ((bcell hB3).1 _ _ q4).trans f6⟩
      refine wpAnyH_ready (rs := [35]) (by kernel_rfl) (by simp) ?_
      refine AllReadyH.cons rfl (fun K hK => ?_) AllReadyH.nil
      go_simp
      refine hK.out _ _ ?s84 (fun hHeld84 => ?_)
      case s84 => ((try dsimp only); (first | exact hS3 | exact hS2 | exact ⟨f0, f1, f2, f3, f4, f5, f6⟩ | assumption | (first | go_keep | (obtain ⟨hq, _⟩ := bcell ‹Below _ _ _›; (repeat' apply And.intro) <;> (rw [hq _ _ (by first | assumption | omega | (simp; done) | (simp; omega) | (simp; assumption))] <;> (first | assumption | (simp [*]; done)))))))
      clear hK K hHeld
      have hHeld := hHeld84; clear hHeld84
      try simp only [Act.put, List.setIfInBounds_toArray, List.set_cons_zero, List.set_cons_succ]
      refine wpAnyH_ready (rs := [36]) (by kernel_rfl) (by simp) ?_
      refine AllReadyH.cons rfl (fun K hK => ?_) AllReadyH.nil
      simp only [List.getElem_toArray, List.getElem_cons_succ, List.getElem_cons_zero]
      refine wp_appendE rfl w7.heap.size _ (KN + q0 + 2) ((D0 ++ Q0) ++ [(x0, r0), (x1, r1)]) rfl hown2 w11.heap.size 0 2 2 [(y0, r2), (y1, r3)] rfl rfl hnew (by have := HKq.out; omega) (by omega) (by simp; omega) ?_
      intro v' w12 hown3 hfr hgr
      have b31 := hfr w.heap.size w (by omega) hb9
      have b37 := hfr w7.heap.size (w11.drew.alloc (.cells #[.int .i64 y0, .int .i64 r2, .int .i64 y1, .int .i64 r3] 40)) (Nat.le_refl _) (Below.refl _ _)
      have hA3 := own_same (own_below HA11.out hB3) fun t cs ht hB => hB.grown' hown2 hgr (by rw [ht]; decide)
      have hB33 := own_same (own_below HB11.out hB3) fun t cs ht hB => hB.grown' hown2 hgr (by rw [ht]; decide)
      have hI3 := own_same (own_below HI11.out hB3) fun t cs ht hB => hB.grown' hown2 hgr (by rw [ht]; decide)
      have hG3 := (KG11.out.below hB3 q1).grown' hown2 hgr (by decide)
      have hS3 : w12.cell? ⟨w.heap.size, 1, none⟩ = some (.slice (some ⟨bA, oA, none⟩) L c) ∧ w12.cell? ⟨bA, oA + j * 2, none⟩ = some (.int .i64 y0) ∧ w12.cell? ⟨bA, oA + j * 2 + 1, none⟩ = some (.int .i64 y1) ∧ w12.cell? ⟨gb, 0, none⟩ = some (.int .i64 (s2 : Int)) ∧ w12.cell? ⟨gb, 1, none⟩ = some (.int .i64 (s3 : Int)) ∧ w12.cell? ⟨gi, p2, none⟩ = some (.int .i64 r2) ∧ w12.cell? ⟨gi, p3, none⟩ = some (.int .i64 r3) := ⟨hG3.cellAt 1 _ rfl, (((bcell b31).1 bA (oA + j * 2) hbA).trans hcF.1).trans (by rw [hy]), (((bcell b31).1 bA (oA + j * 2 + 1) hbA).trans hcF.2).trans (by rw [hy]), own_cellI hB33 rfl (by decide), own_cellI hB33 rfl (by decide), (by have h := own_cellI hI3 HXl.out HpP.out.2.1; rw [Hn2.out] at h; exact h), (by have h := own_cellI hI3 HXl.out HpP.out.2.2; rw [Hn3.out] at h; exact h)⟩
      refine hK.out _ _ ?s85 (fun hHeld85 => ?_)
      case s85 => ((try dsimp only); (first | exact hS3 | exact hS2 | exact ⟨f0, f1, f2, f3, f4, f5, f6⟩ | assumption | (first | go_keep | (obtain ⟨hq, _⟩ := bcell ‹Below _ _ _›; (repeat' apply And.intro) <;> (rw [hq _ _ (by first | assumption | omega | (simp; done) | (simp; omega) | (simp; assumption))] <;> (first | assumption | (simp [*]; done)))))))
      clear hK K hHeld
      have hHeld := hHeld85; clear hHeld85
      try simp only [Act.put, List.setIfInBounds_toArray, List.set_cons_zero, List.set_cons_succ]
      refine wpAnyH_take_d (i := 37) (d := some 18) (v := ?v86) rfl rfl (by kernel_rfl) (by kernel_rfl) (by kernel_rfl) (fun _ _ _ h => h) (Or.inl ⟨by kernel_rfl, ?y86⟩) (by assumption) ?_
      case y86 => (intro w' hSw; (try dsimp only at hSw); go_simp; try with_reducible rfl)
      try simp only [Act.put, List.setIfInBounds_toArray, List.set_cons_zero, List.set_cons_succ]
      refine wpAnyH_done (by kernel_rfl) ?_ _
      refine NoPanic.normal ?_
      obtain ⟨A12, c12, rfl⟩ := own_form hown3
      have HO12 : Hid (w12.ownsRow w7.heap.size 40 2 (.slice A12 (KN + q0 + 2 + 2) c12) (KN + q0 + 2 + 2) (cE (((D0 ++ Q0) ++ [(x0, r0), (x1, r1)]) ++ [(y0, r2), (y1, r3)]))) := hown3
      have HA12 := Lib.hid hA3
      have HB12 := Lib.hid hB33
      have HI12 := Lib.hid hI3
      have KG12 := Lib.hid hG3
      have KH12 := Lib.hid ((KH11.out.below hB3 qh).grown' hown2 hgr (by decide))
      have HZ12 := Lib.hid ((HZ11.out.below hB3 qz).grown' hown2 hgr (by decide))
      have Hb12 := Lib.hid b31
      have hz12 : Hid (w7.heap.size ≤ w12.heap.size) := Nat.le_trans (Nat.le_trans hz11.out hB3.size) b37.size
      clear hHeld hS2 hS3 hA3 hB33 hI3 hG3 hown3 hfr hgr b31 b37 hown2 hnew hB3 hb9 hzz b0 f0 f1 f2 f3 f4 f5 f6 q1 q2 q3 q4 qz qh HO11 HA11 HB11 HI11 KG11 KH11 HZ11 Hb11 hz11
      have HE : Hid (w12.ownsRow w7.heap.size 40 2 (.slice A12 (KN + q0 + 2 + 2) c12) (KN + q0 + 2 + 2) (cE X)) := by
        show World.ownsRow _ _ _ _ _ _ _
        rw [HR.out]
        exact HO12.out
      have hXL : X.length = KN + q0 + 2 + 2 := (own_lenE HE.out).symm
      have cm := cm.out A12 c12 w12 (own_rdE HE.out)
      rw [hXL] at cm
      have k0 := KG12.out.cellAt 0 _ rfl
      have k2 := KH12.out.cellAt 0 _ rfl
      have zz := HZ12.out.lt
      clear HO12
      go_wp2_with fail
      refine cm.mono ?_
      rintro e9 w4 ⟨A3, c3, rfl, hF, hb4⟩
      have HZ4 := Lib.hid (HZ12.out.below hb4 HZ12.out.lt)
      have x0' := HZ4.out.cellAt 0 _ rfl
      have x1' : (w4.setCell ⟨w.heap.size + 2, 0, none⟩ (.int .i64 (n + m - 2))).cell? ⟨w.heap.size + 2, 1, none⟩ = some (.slice none 0 0) := (sc_other (by simp)).trans (HZ4.out.cellAt 1 _ rfl)
      have f0 := HZ4.out.frozen 0
      have f1 := HZ4.out.frozen 1
      have HF := Lib.hid hF
      have Hb4 : Hid (Below w.heap.size w w4) := Hb12.out.trans (hb4.mono (by have := Hb12.out.size; omega))
      have HXL := Lib.hid hXL
      clear hF hb4 cm HA12 HB12 HI12 KG12 KH12 HZ12 Hb12 k0 k2 hXL
      go_wp2
      refine ret_cell_tmp Tryz.results12 Tryz.underlying28 rfl (by kernel_rfl) rfl ((HZ4.out.set_ 0 (.int .i64 (n + m - 2))).set_ 1 (.slice A3 (KN + q0 + 2 + 2) c3)) rfl rfl ⟨⟨A3, c3, ?_, FrE.mono (n0 := w12.heap.size) ?_ (by omega)⟩, (Hb4.out.setCell (by show w.heap.size ≤ w.heap.size + 2; omega) _).setCell (by show w.heap.size ≤ w.heap.size + 2; omega) _⟩
      · rw [madeE_len, HXL.out]; rfl
      · exact HF.out.away (((Only.refl _ _).set 0 _).set 1 _ : Only (some ⟨w.heap.size + 2, 0, none⟩) w4 _) zz
end Go.Proofs.YtjgmoffkecnmcaaGreat
