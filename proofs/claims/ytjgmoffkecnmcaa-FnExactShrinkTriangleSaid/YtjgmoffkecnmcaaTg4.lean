/- impl.ShrinkTriangle: the graph. No statement of the program is proved here. -/
import Derived.Test.YtjgmoffkecnmcaaTg3
import Derived.Test.YtjgmoffkecnmcaaWo2
namespace Go.Proofs.Ytjgmoffkecnmcaa
open Go.RowKit
set_option linter.unusedSimpArgs false
set_option linter.unusedVariables false
set_option maxRecDepth 20000

theorem andNotU {T l : Nat} (hT : T < 2 ^ 63) (hl : l < 64) : bits .andNot .u64 (T : Int) ((2 ^ l : Nat) : Int) = ((outS T l : Nat) : Int) := by
  have h2 : 2 ^ l < 2 ^ 64 := Nat.pow_lt_pow_right (by decide) hl
  exact u64_andNot_nat T (2 ^ l) (Nat.lt_trans hT (by decide)) h2
set_option maxHeartbeats 8000000 in
/-- The graph. -/
theorem implTri_yes (n : Int) (A : Option Addr) (c : Nat) (es : List (Int × Int)) (a b d : Nat) (w : World) (N l : Nat) (hl : es.length ≤ 1000) (hN : N ≤ 60) (hn : 2 ≤ n ∧ n ≤ 60) (hin : InN N es) (hr : RdE w A es) (hq : Hid (isGraphB n es = true)) (ha : Hid (inB (a : Int) 0 (wrap64 (n - 1)) = true)) (hb : Hid (inB (b : Int) 0 (wrap64 (n - 1)) = true)) (hd : Hid (inB (d : Int) 0 (wrap64 (n - 1)) = true)) (h0 : a < 60 ∧ b < 60 ∧ d < 60)
    (h1 : a ≠ b) (h2 : a ≠ d) (h3 : b ≠ d) (h4 : joinN es a b = 1) (h5 : joinN es a d = 1) (h6 : joinN es b d = 1) (hmin : min (a : Int) (min (b : Int) (d : Int)) = (l : Int)) (hpos : 0 < (trL (setN [(a : Int), (b : Int), (d : Int)]) l es).length) :
    Calls Try.prog 13 #[.agg #[.int .i64 n, .slice A es.length c], .int .i64 a, .int .i64 b, .int .i64 d] w fun e w' => RetG w' w.heap.size e (n - 2) (madeE (trL (setN [(a : Int), (b : Int), (d : Int)]) l es)) 0 ∧ Below w.heap.size w w' := by
  have Hre : Hid (∀ W, Below w.heap.size w W → RdE W A es) := fun W hW => hr.below hW
  have Hin := Lib.hid hin
  have ca := fun W => isVertex_b n A es.length c a W true ha
  have cb := fun W => isVertex_b n A es.length c b W true hb
  have cc := fun W => isVertex_b n A es.length c d W true hd
  have cg := fun W (hW : Below w.heap.size w W) => graphCode_b n A c es W true true hq (by omega) (hr.below hW)
  rw [show gcode true true = 0 from rfl] at cg
  have C1 := Lib.hid fun W (hW : Below w.heap.size w W) => joins_b n A c es N a b W (by omega) (by omega) hin (by omega) (hr.below hW)
  have C2 := Lib.hid fun W (hW : Below w.heap.size w W) => joins_b n A c es N a d W (by omega) (by omega) hin (by omega) (hr.below hW)
  have C3 := Lib.hid fun W (hW : Below w.heap.size w W) => joins_b n A c es N b d W (by omega) (by omega) hin (by omega) (hr.below hW)
  obtain ⟨j1, Hj1⟩ : ∃ j : Nat, Hid (joinN es a b = j) := ⟨_, rfl⟩
  obtain ⟨j2, Hj2⟩ : ∃ j : Nat, Hid (joinN es a d = j) := ⟨_, rfl⟩
  obtain ⟨j3, Hj3⟩ : ∃ j : Nat, Hid (joinN es b d = j) := ⟨_, rfl⟩
  rw [Hj1.out] at h4 C1
  rw [Hj2.out] at h5 C2
  rw [Hj3.out] at h6 C3
  have g5 : ((j1 : Int) != 1) = false := by simp; omega
  have g6 : ((j2 : Int) != 1) = false := by simp; omega
  have g7 : ((j3 : Int) != 1) = false := by simp; omega
  clear Hj1 Hj2 Hj3
  have h63 : ∀ x ∈ [(a : Int), (b : Int), (d : Int)], 0 ≤ x ∧ x < (63 : Nat) := by simp; omega
  have cs := Lib.hid fun (W : World) Q hQ => setOf_b Q 3 [(a : Int), (b : Int), (d : Int)] W (by simp) h63 hQ
  have hT63 : setN [(a : Int), (b : Int), (d : Int)] < 2 ^ 63 := setN_lt h63
  have cm := Lib.hid fun Q cc (W : World) hQ => graphOf_b (n - 2) Q cc (trL (setN [(a : Int), (b : Int), (d : Int)]) l es) W hpos (by have := trL_len (setN [(a : Int), (b : Int), (d : Int)]) l es; omega) hQ
  have hl60 : l < 60 := by omega
  have Hh0 : Hid ((a < 60 ∧ b < 60 ∧ d < 60) ∧ N ≤ 60 ∧ l < 60) := by show _ ∧ _; omega
  have g2 : ((a : Int) == b) = false := by simp; omega
  have g3 : ((a : Int) == d) = false := by simp; omega
  have g4 : ((b : Int) == d) = false := by simp; omega
  have p1 : wrap64 (n - 2) = n - 2 := wrap64_small (by omega) (by omega)
  have Hp1 := Lib.hid p1
  obtain ⟨m1, Hm1⟩ : ∃ m : Int, Hid ((if (b : Int) < a then (b : Int) else a) = m) := ⟨_, rfl⟩
  have hm1 : (if (b : Int) < a then (b : Int) else a) = m1 := Hm1.out
  have hm2 : (if (d : Int) < m1 then (d : Int) else m1) = (l : Int) := by
    rw [← hm1, ← hmin]; split <;> split <;> omega
  have hm1c : (if b < a then (b : Int) else a) = m1 := by rw [← hm1]; split <;> split <;> omega
  have hm1b : min (a : Int) (b : Int) = m1 := by rw [← hm1]; split <;> omega
  have hm2b : min m1 (d : Int) = (l : Int) := by rw [← hm2]; split <;> omega
  obtain ⟨T, HT⟩ : ∃ T, Hid (setN [(a : Int), (b : Int), (d : Int)] = T) := ⟨_, rfl⟩
  rw [HT.out] at hT63 cm
  simp only [HT.out] at cs ⊢
  have hO63 := outS_lt (l := l) hT63
  have e1 := wrapU_pow (show l < 64 by omega)
  have e2 := andNotU hT63 (show l < 64 by omega)
  obtain ⟨O, HO⟩ : ∃ O, Hid (outS T l = O) := ⟨_, rfl⟩
  rw [HO.out] at hO63 e2
  have e2b : bits .andNot .u64 (T : Int) ((2 : Int) ^ l) = ((O : Nat) : Int) := by rw [← e2, Int.natCast_pow]; rfl
  have HO63 := Lib.hid hO63
  have HT63 := Lib.hid hT63
  obtain ⟨L, HL⟩ : ∃ L, Hid (es.length = L) := ⟨_, rfl⟩
  have Hl := Lib.hid hl
  rw [HL.out] at ca cb cc cg C1 C2 C3 Hl ⊢
  have l63 : l < 64 := by omega
  clear hr hq ha hb hd h0 h1 h2 h3 h4 h5 h6 hmin hpos h63 hT63 hO63 hl60 hl hN hin hn Hm1 HT
  go_enter Try.func13, Try.ntmps13
  go_wp2
  refine wp_region_noPanic ?_
  refine wp_region_held_drew (S := (fun w' => w'.cell? ⟨w.heap.size, 0, none⟩ = some (.int .i64 n) ∧ w'.cell? ⟨w.heap.size, 1, none⟩ = some (.slice A L c))) (by kernel_rfl) ?_ (fun hHeld => ?_)
  · (try dsimp only); (first | go_keep | (obtain ⟨hq, _⟩ := bcell ‹Below _ _ _›; (repeat' apply And.intro) <;> (rw [hq _ _ (by first | assumption | omega | (simp; done) | (simp; omega) | (simp; assumption))] <;> (first | assumption | (simp [*]; done)))))
  refine wpAnyH_take_d (i := 0) (d := some 17) (v := ?v1) rfl rfl (by kernel_rfl) (by kernel_rfl) (by kernel_rfl) (fun _ _ _ h => h) (Or.inl ⟨by kernel_rfl, ?y1⟩) (by assumption) ?_
  case y1 => (intro w' hSw; (try dsimp only at hSw); go_simp; try with_reducible rfl)
  try simp only [Act.put, List.setIfInBounds_toArray, List.set_cons_zero, List.set_cons_succ]
  refine wpAnyH_take_d (i := 1) (d := some 18) (v := ?v2) rfl rfl (by kernel_rfl) (by kernel_rfl) (by kernel_rfl) (fun _ _ _ h => h) (Or.inl ⟨by kernel_rfl, ?y2⟩) (by assumption) ?_
  case y2 => (intro w' hSw; (try dsimp only at hSw); go_simp; try with_reducible rfl)
  try simp only [Act.put, List.setIfInBounds_toArray, List.set_cons_zero, List.set_cons_succ]
  refine wpAnyH_take_d (i := 2) (d := some 19) (v := ?v3) rfl rfl (by kernel_rfl) (by kernel_rfl) (by kernel_rfl) (fun _ _ _ h => h) (Or.inl ⟨by kernel_rfl, ?y3⟩) (by assumption) ?_
  case y3 => (intro w' hSw; (try dsimp only at hSw); go_simp; try with_reducible rfl)
  try simp only [Act.put, List.setIfInBounds_toArray, List.set_cons_zero, List.set_cons_succ]
  refine wpAnyH_ready (rs := [3]) (by kernel_rfl) (by simp) ?_
  refine AllReadyH.cons rfl (fun K hK => ?_) AllReadyH.nil
  go_simp
  refine (ca _).mono ?_; rintro e w1 ⟨rfl, hb1⟩; have z1 := hb1.size; (try simp only [World.size_alloc, World.size_setCell, World.size_drew] at z1)
  refine hK.out _ _ ?s4 (fun hHeld4 => ?_)
  case s4 => ((try dsimp only); (first | go_keep | (obtain ⟨hq, _⟩ := bcell ‹Below _ _ _›; (repeat' apply And.intro) <;> (rw [hq _ _ (by first | assumption | omega | (simp; done) | (simp; omega) | (simp; assumption))] <;> (first | assumption | (simp [*]; done))))))
  clear hK K hHeld
  have hHeld := hHeld4; clear hHeld4
  try simp only [Act.put, List.setIfInBounds_toArray, List.set_cons_zero, List.set_cons_succ]
  refine wpAnyH_take_d (i := 4) (d := some 21) (v := ?v5) rfl rfl (by kernel_rfl) (by kernel_rfl) (by kernel_rfl) (fun _ _ _ h => h) (Or.inl ⟨by kernel_rfl, ?y5⟩) (by assumption) ?_
  case y5 => (intro w' hSw; (try dsimp only at hSw); go_simp; try with_reducible rfl)
  try simp only [Act.put, List.setIfInBounds_toArray, List.set_cons_zero, List.set_cons_succ]
  refine wpAnyH_take_d (i := 5) (d := some 22) (v := ?v6) rfl rfl (by kernel_rfl) (by kernel_rfl) (by kernel_rfl) (fun _ _ _ h => h) (Or.inl ⟨by kernel_rfl, ?y6⟩) (by assumption) ?_
  case y6 => (intro w' hSw; (try dsimp only at hSw); go_simp; try with_reducible rfl)
  try simp only [Act.put, List.setIfInBounds_toArray, List.set_cons_zero, List.set_cons_succ]
  refine wpAnyH_take_d (i := 6) (d := some 23) (v := ?v7) rfl rfl (by kernel_rfl) (by kernel_rfl) (by kernel_rfl) (fun _ _ _ h => h) (Or.inl ⟨by kernel_rfl, ?y7⟩) (by assumption) ?_
  case y7 => (intro w' hSw; (try dsimp only at hSw); go_simp; try with_reducible rfl)
  try simp only [Act.put, List.setIfInBounds_toArray, List.set_cons_zero, List.set_cons_succ]
  refine wpAnyH_ready (rs := [7]) (by kernel_rfl) (by simp) ?_
  refine AllReadyH.cons rfl (fun K hK => ?_) AllReadyH.nil
  go_simp
  refine (cb _).mono ?_; rintro e w2 ⟨rfl, hb2⟩; have z2 := hb2.size; (try simp only [World.size_alloc, World.size_setCell, World.size_drew] at z2)
  refine hK.out _ _ ?s8 (fun hHeld8 => ?_)
  case s8 => ((try dsimp only); (first | go_keep | (obtain ⟨hq, _⟩ := bcell ‹Below _ _ _›; (repeat' apply And.intro) <;> (rw [hq _ _ (by first | assumption | omega | (simp; done) | (simp; omega) | (simp; assumption))] <;> (first | assumption | (simp [*]; done))))))
  clear hK K hHeld
  have hHeld := hHeld8; clear hHeld8
  try simp only [Act.put, List.setIfInBounds_toArray, List.set_cons_zero, List.set_cons_succ]
  refine wpAnyH_take_d (i := 8) (d := some 25) (v := ?v9) rfl rfl (by kernel_rfl) (by kernel_rfl) (by kernel_rfl) (fun _ _ _ h => h) (Or.inl ⟨by kernel_rfl, ?y9⟩) (by assumption) ?_
  case y9 => (intro w' hSw; (try dsimp only at hSw); go_simp; try with_reducible rfl)
  try simp only [Act.put, List.setIfInBounds_toArray, List.set_cons_zero, List.set_cons_succ]
  refine wpAnyH_take_d (i := 9) (d := some 26) (v := ?v10) rfl rfl (by kernel_rfl) (by kernel_rfl) (by kernel_rfl) (fun _ _ _ h => h) (Or.inl ⟨by kernel_rfl, ?y10⟩) (by assumption) ?_
  case y10 => (intro w' hSw; (try dsimp only at hSw); go_simp; try with_reducible rfl)
  try simp only [Act.put, List.setIfInBounds_toArray, List.set_cons_zero, List.set_cons_succ]
  refine wpAnyH_take_d (i := 10) (d := some 27) (v := ?v11) rfl rfl (by kernel_rfl) (by kernel_rfl) (by kernel_rfl) (fun _ _ _ h => h) (Or.inl ⟨by kernel_rfl, ?y11⟩) (by assumption) ?_
  case y11 => (intro w' hSw; (try dsimp only at hSw); go_simp; try with_reducible rfl)
  try simp only [Act.put, List.setIfInBounds_toArray, List.set_cons_zero, List.set_cons_succ]
  refine wpAnyH_take_d (i := 11) (d := some 28) (v := ?v12) rfl rfl (by kernel_rfl) (by kernel_rfl) (by kernel_rfl) (fun _ _ _ h => h) (Or.inl ⟨by kernel_rfl, ?y12⟩) (by assumption) ?_
  case y12 => (intro w' hSw; (try dsimp only at hSw); go_simp; try with_reducible rfl)
  try simp only [Act.put, List.setIfInBounds_toArray, List.set_cons_zero, List.set_cons_succ]
  refine wpAnyH_ready (rs := [12]) (by kernel_rfl) (by simp) ?_
  refine AllReadyH.cons rfl (fun K hK => ?_) AllReadyH.nil
  go_simp
  refine (cc _).mono ?_; rintro e w3 ⟨rfl, hb3⟩; have z3 := hb3.size; (try simp only [World.size_alloc, World.size_setCell, World.size_drew] at z3)
  refine hK.out _ _ ?s13 (fun hHeld13 => ?_)
  case s13 => ((try dsimp only); (first | go_keep | (obtain ⟨hq, _⟩ := bcell ‹Below _ _ _›; (repeat' apply And.intro) <;> (rw [hq _ _ (by first | assumption | omega | (simp; done) | (simp; omega) | (simp; assumption))] <;> (first | assumption | (simp [*]; done))))))
  clear hK K hHeld
  have hHeld := hHeld13; clear hHeld13
  try simp only [Act.put, List.setIfInBounds_toArray, List.set_cons_zero, List.set_cons_succ]
  refine wpAnyH_take_d (i := 13) (d := some 30) (v := ?v14) rfl rfl (by kernel_rfl) (by kernel_rfl) (by kernel_rfl) (fun _ _ _ h => h) (Or.inl ⟨by kernel_rfl, ?y14⟩) (by assumption) ?_
  case y14 => (intro w' hSw; (try dsimp only at hSw); go_simp; try with_reducible rfl)
  try simp only [Act.put, List.setIfInBounds_toArray, List.set_cons_zero, List.set_cons_succ]
  refine wpAnyH_ready (rs := [14]) (by kernel_rfl) (by simp) ?_
  refine AllReadyH.cons rfl (fun K hK => ?_) AllReadyH.nil
  go_simp
  refine (cg _ (by (repeat' (first | (with_reducible exact Below.refl _ _) | (with_reducible assumption) | (with_reducible refine Below.alloc ?_ ?_ _) | (with_reducible refine Below.drew ?_) | (with_reducible refine below_drewN ?_ _) | (with_reducible refine Below.setCell ?_ ?_ _) | (with_reducible refine Below.trans ?_ (Below.mono (by assumption) ?_)) | (first | omega | (simp only [World.size_alloc, World.size_setCell, World.size_drew]; omega) | (simp; omega) | (simp; done)))))).mono ?_; rintro e w4 ⟨rfl, hb4⟩; have z4 := hb4.size; (try simp only [World.size_alloc, World.size_setCell, World.size_drew] at z4)
  refine hK.out _ _ ?s15 (fun hHeld15 => ?_)
  case s15 => ((try dsimp only); (first | go_keep | (obtain ⟨hq, _⟩ := bcell ‹Below _ _ _›; (repeat' apply And.intro) <;> (rw [hq _ _ (by first | assumption | omega | (simp; done) | (simp; omega) | (simp; assumption))] <;> (first | assumption | (simp [*]; done))))))
  clear hK K hHeld
  have hHeld := hHeld15; clear hHeld15
  try simp only [Act.put, List.setIfInBounds_toArray, List.set_cons_zero, List.set_cons_succ]
  refine wpAnyH_take_d (i := 15) (d := some 10) (v := ?v16) rfl rfl (by kernel_rfl) (by kernel_rfl) (by kernel_rfl) (fun _ _ _ h => h) (Or.inl ⟨by kernel_rfl, ?y16⟩) (by assumption) ?_
  case y16 => (intro w' hSw; (try dsimp only at hSw); go_simp; try with_reducible rfl)
  try simp only [Act.put, List.setIfInBounds_toArray, List.set_cons_zero, List.set_cons_succ]
  refine wpAnyH_done (by kernel_rfl) ?_ _
  refine NoPanic.normal ?_
  clear hHeld
  have b4 : Below ((w.alloc (.cells #[.int .i64 n, .slice A L c] 28)).alloc (.cells #[.int .i64 0, .slice none 0 0] 28)).heap.size ((w.alloc (.cells #[.int .i64 n, .slice A L c] 28)).alloc (.cells #[.int .i64 0, .slice none 0 0] 28)) w4 := by (repeat' (first | (with_reducible exact Below.refl _ _) | (with_reducible assumption) | (with_reducible refine Below.alloc ?_ ?_ _) | (with_reducible refine Below.drew ?_) | (with_reducible refine below_drewN ?_ _) | (with_reducible refine Below.setCell ?_ ?_ _) | (with_reducible refine Below.trans ?_ (Below.mono (by assumption) ?_)) | (first | omega | (simp only [World.size_alloc, World.size_setCell, World.size_drew]; omega) | (simp; omega) | (simp; done))))
  have HZ4 := Lib.hid ((Blk.new' (n := w.heap.size + 1) _ (by simp)).below b4 (by simp) : Blk w4 (w.heap.size + 1) 28 #[.int .i64 0, .slice none 0 0])
  have HG4 := Lib.hid (((Blk.new w _ _).alloc _).below b4 (by simp <;> omega) : Blk w4 w.heap.size 28 #[.int .i64 n, .slice A L c])
  have Hb4 : Hid (Below w.heap.size w w4) := by show Below _ _ _; exact Below.trans (b := ((w.alloc (.cells #[.int .i64 n, .slice A L c] 28)).alloc (.cells #[.int .i64 0, .slice none 0 0] 28))) (by (repeat' (first | (with_reducible exact Below.refl _ _) | (with_reducible assumption) | (with_reducible refine Below.alloc ?_ ?_ _) | (with_reducible refine Below.drew ?_) | (with_reducible refine below_drewN ?_ _) | (with_reducible refine Below.setCell ?_ ?_ _) | (with_reducible refine Below.trans ?_ (Below.mono (by assumption) ?_)) | (first | omega | (simp only [World.size_alloc, World.size_setCell, World.size_drew]; omega) | (simp; omega) | (simp; done))))) (b4.mono (by simp; omega))
  clear b4
  have k0 := HG4.out.cellAt 0 _ rfl
  have k1 := HG4.out.cellAt 1 _ rfl
  have z9 := HZ4.out.lt
  go_wp2_with fail
  refine (C1.out w4 Hb4.out).mono ?_
  rintro e w5 ⟨rfl, hb5⟩
  have HG5 := Lib.hid (HG4.out.below hb5 (by have := HZ4.out.lt; omega))
  have HZ5 := Lib.hid (HZ4.out.below hb5 HZ4.out.lt)
  have Hb5 : Hid (Below w.heap.size w w5) := Hb4.out.trans (hb5.mono (by have := HZ4.out.lt; omega))
  clear k0 k1 z9 hb5 HG4 HZ4 Hb4
  have k0 := HG5.out.cellAt 0 _ rfl
  have k1 := HG5.out.cellAt 1 _ rfl
  have z9 := HZ5.out.lt
  go_wp2_with fail
  refine (C2.out w5 Hb5.out).mono ?_
  rintro e w6 ⟨rfl, hb6⟩
  have HG6 := Lib.hid (HG5.out.below hb6 (by have := HZ5.out.lt; omega))
  have HZ6 := Lib.hid (HZ5.out.below hb6 HZ5.out.lt)
  have Hb6 : Hid (Below w.heap.size w w6) := Hb5.out.trans (hb6.mono (by have := HZ5.out.lt; omega))
  clear k0 k1 z9 hb6 HG5 HZ5 Hb5
  have k0 := HG6.out.cellAt 0 _ rfl
  have k1 := HG6.out.cellAt 1 _ rfl
  have z9 := HZ6.out.lt
  go_wp2_with fail
  refine (C3.out w6 Hb6.out).mono ?_
  rintro e w7 ⟨rfl, hb7⟩
  have HG7 := Lib.hid (HG6.out.below hb7 (by have := HZ6.out.lt; omega))
  have HZ7 := Lib.hid (HZ6.out.below hb7 HZ6.out.lt)
  have Hb7 : Hid (Below w.heap.size w w7) := Hb6.out.trans (hb7.mono (by have := HZ6.out.lt; omega))
  clear k0 k1 z9 hb7 HG6 HZ6 Hb6
  have k0 := HG7.out.cellAt 0 _ rfl
  have k1 := HG7.out.cellAt 1 _ rfl
  have z9 := HZ7.out.lt
  obtain ⟨u8, hu8⟩ : ∃ u, u = w7.alloc (.cells #[.int .i64 (a : Int), .int .i64 (b : Int), .int .i64 (d : Int)] 2) := ⟨_, rfl⟩
  have hb8 : Below w7.heap.size w7 u8 := by rw [hu8]; exact Below.alloc (Below.refl _ _) (Nat.le_refl _) _
  have hR8 : RdI u8 (some ⟨w7.heap.size, 0, none⟩) [(a : Int), (b : Int), (d : Int)] := by rw [hu8]; exact blkI_rd (t := 2) (xs := [(a : Int), (b : Int), (d : Int)]) (Blk.new' _ rfl)
  have HG8 := Lib.hid (HG7.out.below hb8 (by have := HZ7.out.lt; omega))
  have HZ8 := Lib.hid (HZ7.out.below hb8 HZ7.out.lt)
  have Hb8 : Hid (Below w.heap.size w u8) := Hb7.out.trans (hb8.mono (by have := HZ7.out.lt; omega))
  clear k0 k1 z9 HG7 HZ7 Hb7 C1 C2 C3 ca cb cc cg hb8
  go_wp2_with fail
  rw [← hu8]
  refine (cs.out u8 _ hR8).mono ?_
  rintro e w9 ⟨rfl, rfl⟩
  clear hR8 cs hu8
  have k0 := HG8.out.cellAt 0 _ rfl
  have k1 := HG8.out.cellAt 1 _ rfl
  have z9 := HZ8.out.lt
  go_wp2
  clear e1 e2 e2b l63 hm1 hm1b hm1c hm2 hm2b p1
  have p1 : wrap64 (n - 2) = n - 2 := Hp1.out
  go_loopw [14, 87] (fun v i wr => ∃ (k KN : Nat), k ≤ L ∧ i = .int .i64 k ∧ Hid (wr.ownsRow u8.heap.size 45 2 v KN (cE (trL T l (es.take k)))) ∧ Hid (Below u8.heap.size u8 wr)) (fun _ i _ => L - (intOf i).toNat)
  case atStart => exact ⟨0, 0, Nat.zero_le _, rfl, own_nilE _ _ _, Below.refl _ _⟩
  case round =>
    obtain ⟨k, KN, hk, rfl, Hown, Hbel⟩ := hrel
    obtain ⟨A1, c1, rfl⟩ := own_form Hown.out
    have hsz := Hbel.out.size
    have HKk : Hid (KN ≤ 1000) := by
      show _ ≤ _
      have h1 := own_lenE Hown.out
      have h2 := trL_len T l (es.take k)
      rw [List.length_take] at h2
      have := Hl.out
      have := HL.out
      omega
    by_cases hlt : k < L
    · obtain ⟨bb, off, rfl, hb, hc⟩ := (Hre.out wr (Hb8.out.trans (Hbel.out.mono Hb8.out.size))).pos (by rw [HL.out]; omega)
      obtain ⟨hc0, hc1⟩ := hc k (by rw [HL.out]; exact hlt)
      obtain ⟨x, y, Hxy, hx, hy⟩ := Hin.out k (by rw [HL.out]; exact hlt)
      rw [Hxy] at hc0 hc1
      dsimp only at hc0 hc1
      have Hb60 : Hid ((x < 60 ∧ y < 60) ∧ l < 60) := by show _ ∧ _; have := Hh0.out; omega
      obtain ⟨ek, ek2, ek3⟩ := idxF k L hlt
      have Hs : Hid (trL T l (es.take (k + 1)) = if (T.testBit x && T.testBit y) = true then trL T l (es.take k) else trL T l (es.take k) ++ [(frV O 0 (if T.testBit x = true then l else x), frV O 0 (if T.testBit y = true then l else y))]) := by
        show _ = _
        rw [take_snocE es k (by rw [HL.out]; exact hlt), Hxy, trL_snoc]
        simp only [inS2, trE, Int.toNat_natCast, HO.out]
      obtain ⟨P, HP⟩ : ∃ P, Hid (trL T l (es.take k) = P) := ⟨_, rfl⟩
      rw [HP.out] at Hown Hs
      obtain ⟨q1, Hq1⟩ : ∃ q, Hid (T.testBit x = q) := ⟨_, rfl⟩
      obtain ⟨q2, Hq2⟩ : ∃ q, Hid (T.testBit y = q) := ⟨_, rfl⟩
      rw [Hq1.out, Hq2.out] at Hs
      have ch1 := Lib.hid fun W => has_b x T W q1 Hq1 (by have := Hb60.out; omega) HT63.out
      have ch2 := Lib.hid fun W => has_b y T W q2 Hq2 (by have := Hb60.out; omega) HT63.out
      have hk9 : k ≤ 1000 := by have := Hl.out; omega
      obtain ⟨u, hu⟩ : ∃ u, u = wr.alloc (.cells #[.int .i64 (x : Int), .int .i64 (y : Int)] 45) := ⟨_, rfl⟩
      have hbu : Below wr.heap.size wr u := by rw [hu]; exact Below.alloc (Below.refl _ _) (Nat.le_refl _) _
      have Hzu : Hid (u.heap.size = wr.heap.size + 1) := by show _ = _; rw [hu]; simp
      have KB : Hid (Blk u wr.heap.size 45 #[.int .i64 (x : Int), .int .i64 (y : Int)]) := by rw [hu]; exact Blk.new wr _ _
      have u0 := KB.out.cellAt 0 _ rfl
      have u1 := KB.out.cellAt 1 _ rfl
      clear Hxy hc hx hy k0 k1
      go_wp2_with fail
      rw [← hu]
      clear hu hc0 hc1
      refine (ch1.out u).mono ?_
      rintro e w9 ⟨rfl, rfl⟩
      cases q1
      · cases q2
        · go_wp2_with fail
          refine (ch1.out u).mono ?_
          rintro e w9 ⟨rfl, rfl⟩
          go_wp2_with fail
          refine (ch2.out u).mono ?_
          rintro e w9 ⟨rfl, rfl⟩
          obtain ⟨z1, Hz1⟩ : ∃ r : Int, Hid ((x : Int) - (shC O x : Nat) = r) := ⟨_, rfl⟩
          obtain ⟨z2, Hz2⟩ : ∃ r : Int, Hid ((y : Int) - (shC O y : Nat) = r) := ⟨_, rfl⟩
          have Hs2 : Hid (trL T l (es.take (k + 1)) = P ++ [(z1, z2)]) := by
            show _ = _
            rw [Hs.out, ← Hz1.out, ← Hz2.out]
            simp [frV]
          have cf1 := fun W => shifted_b x O W (by have := Hb60.out; omega) HO63.out
          have cf2 := fun W => shifted_b y O W (by have := Hb60.out; omega) HO63.out
          rw [Hz1.out] at cf1
          rw [Hz2.out] at cf2
          have cf1 := Lib.hid cf1
          have cf2 := Lib.hid cf2
          have hB3 : Below wr.heap.size wr (u.drew.alloc (.cells #[.int .i64 z1, .int .i64 z2] 45)) := (Below.drew hbu).alloc (by have := Hzu.out; simp; omega) _
          have hown2 := own_below Hown.out hB3
          have hnew : RdE (u.drew.alloc (.cells #[.int .i64 z1, .int .i64 z2] 45)) (some ⟨u.heap.size, 0, none⟩) [(z1, z2)] := blkE_rd (t := 45) (es := [(z1, z2)]) (Blk.new' (n := u.heap.size) _ (by simp))
          have KB2 : Hid (Blk (u.drew.alloc (.cells #[.int .i64 z1, .int .i64 z2] 45)) wr.heap.size 45 #[.int .i64 (x : Int), .int .i64 (y : Int)]) := KB.out.drew.alloc _
          have u0 := KB.out.cellAt 0 _ rfl
          have u1 := KB.out.cellAt 1 _ rfl
          go_wp2
          refine wp_region_noPanic ?_
          refine wp_region_held_drew (S := (fun w' => w'.cell? ⟨wr.heap.size, 0, none⟩ = some (.int .i64 (x : Int)) ∧ w'.cell? ⟨wr.heap.size, 1, none⟩ = some (.int .i64 (y : Int)))) (by kernel_rfl) ?_ (fun hHeld => ?_)
          · (try dsimp only); (first | exact hS3 | exact hS2 | assumption | (first | go_keep | (obtain ⟨hq, _⟩ := bcell ‹Below _ _ _›; (repeat' apply And.intro) <;> (rw [hq _ _ (by first | assumption | omega | (simp; done) | (simp; omega) | (simp; assumption))] <;> (first | assumption | (simp [*]; done))))))
          refine wpAnyH_take_d (i := 0) (d := some 116) (v := ?v17) rfl rfl (by kernel_rfl) (by kernel_rfl) (by kernel_rfl) (fun _ _ _ h => h) (Or.inl ⟨by kernel_rfl, ?y17⟩) (by assumption) ?_
          case y17 => (intro w' hSw; (try dsimp only at hSw); go_simp; try with_reducible rfl)
          try simp only [Act.put, List.setIfInBounds_toArray, List.set_cons_zero, List.set_cons_succ]
          refine wpAnyH_take_d (i := 1) (d := some 117) (v := ?v18) rfl rfl (by kernel_rfl) (by kernel_rfl) (by kernel_rfl) (fun _ _ _ h => h) (Or.inl ⟨by kernel_rfl, ?y18⟩) (by assumption) ?_
          case y18 => (intro w' hSw; (try dsimp only at hSw); go_simp; try with_reducible rfl)
          try simp only [Act.put, List.setIfInBounds_toArray, List.set_cons_zero, List.set_cons_succ]
          refine wpAnyH_take_d (i := 2) (d := some 118) (v := ?v19) rfl rfl (by kernel_rfl) (by kernel_rfl) (by kernel_rfl) (fun _ _ _ h => h) (Or.inl ⟨by kernel_rfl, ?y19⟩) (by assumption) ?_
          case y19 => (intro w' hSw; (try dsimp only at hSw); go_simp; try with_reducible rfl)
          try simp only [Act.put, List.setIfInBounds_toArray, List.set_cons_zero, List.set_cons_succ]
          refine wpAnyH_take_d (i := 3) (d := some 119) (v := ?v20) rfl rfl (by kernel_rfl) (by kernel_rfl) (by kernel_rfl) (fun _ _ _ h => h) (Or.inl ⟨by kernel_rfl, ?y20⟩) (by assumption) ?_
          case y20 => (intro w' hSw; (try dsimp only at hSw); go_simp; try with_reducible rfl)
          try simp only [Act.put, List.setIfInBounds_toArray, List.set_cons_zero, List.set_cons_succ]
          refine wpAnyH_take_d (i := 5) (d := some 121) (v := ?v21) rfl rfl (by kernel_rfl) (by kernel_rfl) (by kernel_rfl) (fun _ _ _ h => h) (Or.inl ⟨by kernel_rfl, ?y21⟩) (by assumption) ?_
          case y21 => (intro w' hSw; (try dsimp only at hSw); go_simp; try with_reducible rfl)
          try simp only [Act.put, List.setIfInBounds_toArray, List.set_cons_zero, List.set_cons_succ]
          refine wpAnyH_take_d (i := 6) (d := some 122) (v := ?v22) rfl rfl (by kernel_rfl) (by kernel_rfl) (by kernel_rfl) (fun _ _ _ h => h) (Or.inl ⟨by kernel_rfl, ?y22⟩) (by assumption) ?_
          case y22 => (intro w' hSw; (try dsimp only at hSw); go_simp; try with_reducible rfl)
          try simp only [Act.put, List.setIfInBounds_toArray, List.set_cons_zero, List.set_cons_succ]
          refine wpAnyH_take_d (i := 7) (d := some 123) (v := ?v23) rfl rfl (by kernel_rfl) (by kernel_rfl) (by kernel_rfl) (fun _ _ _ h => h) (Or.inl ⟨by kernel_rfl, ?y23⟩) (by assumption) ?_
          case y23 => (intro w' hSw; (try dsimp only at hSw); go_simp; try with_reducible rfl)
          try simp only [Act.put, List.setIfInBounds_toArray, List.set_cons_zero, List.set_cons_succ]
          refine wpAnyH_ready (rs := [4]) (by kernel_rfl) (by simp) ?_
          refine AllReadyH.cons rfl (fun K hK => ?_) AllReadyH.nil
          go_simp
          refine (cf1.out _).mono ?_; rintro e w9 ⟨rfl, rfl⟩
          refine hK.out _ _ ?s24 (fun hHeld24 => ?_)
          case s24 => ((try dsimp only); (first | exact hS3 | exact hS2 | assumption | (first | go_keep | (obtain ⟨hq, _⟩ := bcell ‹Below _ _ _›; (repeat' apply And.intro) <;> (rw [hq _ _ (by first | assumption | omega | (simp; done) | (simp; omega) | (simp; assumption))] <;> (first | assumption | (simp [*]; done)))))))
          clear hK K hHeld
          have hHeld := hHeld24; clear hHeld24
          try simp only [Act.put, List.setIfInBounds_toArray, List.set_cons_zero, List.set_cons_succ]
          refine wpAnyH_ready (rs := [8]) (by kernel_rfl) (by simp) ?_
          refine AllReadyH.cons rfl (fun K hK => ?_) AllReadyH.nil
          go_simp
          refine (cf2.out _).mono ?_; rintro e w9 ⟨rfl, rfl⟩
          refine hK.out _ _ ?s25 (fun hHeld25 => ?_)
          case s25 => ((try dsimp only); (first | exact hS3 | exact hS2 | assumption | (first | go_keep | (obtain ⟨hq, _⟩ := bcell ‹Below _ _ _›; (repeat' apply And.intro) <;> (rw [hq _ _ (by first | assumption | omega | (simp; done) | (simp; omega) | (simp; assumption))] <;> (first | assumption | (simp [*]; done)))))))
          clear hK K hHeld
          have hHeld := hHeld25; clear hHeld25
          try simp only [Act.put, List.setIfInBounds_toArray, List.set_cons_zero, List.set_cons_succ]
          refine wpAnyH_take_d (i := 9) (d := some 125) (v := ?v26) rfl rfl (by kernel_rfl) (by kernel_rfl) (by kernel_rfl) (fun _ _ _ h => h) (Or.inl ⟨by kernel_rfl, ?y26⟩) (by assumption) ?_
          case y26 => (intro w' hSw; (try dsimp only at hSw); go_simp; try with_reducible rfl)
          try simp only [Act.put, List.setIfInBounds_toArray, List.set_cons_zero, List.set_cons_succ]
          have hS2 : (u.drew.alloc (.cells #[.int .i64 z1, .int .i64 z2] 45)).cell? ⟨wr.heap.size, 0, none⟩ = some (.int .i64 (x : Int)) ∧ (u.drew.alloc (.cells #[.int .i64 z1, .int .i64 z2] 45)).cell? ⟨wr.heap.size, 1, none⟩ = some (.int .i64 (y : Int)) := ⟨KB2.out.cellAt 0 _ rfl, KB2.out.cellAt 1 _ rfl⟩
          refine wpAnyH_ready (rs := [10]) (by kernel_rfl) (by simp) ?_
          refine AllReadyH.cons rfl (fun K hK => ?_) AllReadyH.nil
          go_simp
          refine hK.out _ _ ?s27 (fun hHeld27 => ?_)
          case s27 => ((try dsimp only); (first | exact hS3 | exact hS2 | assumption | (first | go_keep | (obtain ⟨hq, _⟩ := bcell ‹Below _ _ _›; (repeat' apply And.intro) <;> (rw [hq _ _ (by first | assumption | omega | (simp; done) | (simp; omega) | (simp; assumption))] <;> (first | assumption | (simp [*]; done)))))))
          clear hK K hHeld
          have hHeld := hHeld27; clear hHeld27
          try simp only [Act.put, List.setIfInBounds_toArray, List.set_cons_zero, List.set_cons_succ]
          refine wpAnyH_ready (rs := [11]) (by kernel_rfl) (by simp) ?_
          refine AllReadyH.cons rfl (fun K hK => ?_) AllReadyH.nil
          refine wp_appendE rfl u8.heap.size _ KN P rfl hown2 u.heap.size 0 1 1 [(z1, z2)] rfl rfl hnew (by have := HKk.out; omega) (by omega) (by have := Hzu.out; simp; omega) ?_
          intro v' w3 hown3 hfr hgr
          have hb31 := hfr u8.heap.size wr (Nat.le_refl _) (hB3.mono (by omega))
          have KB3 := KB2.out.grown hgr Hown.out (Nat.le_refl _)
          have hS3 : w3.cell? ⟨wr.heap.size, 0, none⟩ = some (.int .i64 (x : Int)) ∧ w3.cell? ⟨wr.heap.size, 1, none⟩ = some (.int .i64 (y : Int)) := ⟨KB3.cellAt 0 _ rfl, KB3.cellAt 1 _ rfl⟩
          refine hK.out _ _ ?s28 (fun hHeld28 => ?_)
          case s28 => ((try dsimp only); (first | exact hS3 | exact hS2 | assumption | (first | go_keep | (obtain ⟨hq, _⟩ := bcell ‹Below _ _ _›; (repeat' apply And.intro) <;> (rw [hq _ _ (by first | assumption | omega | (simp; done) | (simp; omega) | (simp; assumption))] <;> (first | assumption | (simp [*]; done)))))))
          clear hK K hHeld
          have hHeld := hHeld28; clear hHeld28
          try simp only [Act.put, List.setIfInBounds_toArray, List.set_cons_zero, List.set_cons_succ]
          refine wpAnyH_take_d (i := 12) (d := some 14) (v := ?v29) rfl rfl (by kernel_rfl) (by kernel_rfl) (by kernel_rfl) (fun _ _ _ h => h) (Or.inl ⟨by kernel_rfl, ?y29⟩) (by assumption) ?_
          case y29 => (intro w' hSw; (try dsimp only at hSw); go_simp; try with_reducible rfl)
          try simp only [Act.put, List.setIfInBounds_toArray, List.set_cons_zero, List.set_cons_succ]
          refine wpAnyH_done (by kernel_rfl) ?_ _
          refine NoPanic.normal ?_
          clear hHeld hS3 KB3 KB2 hS2
          have Hb3 : Hid (Below u8.heap.size u8 w3) := Hbel.out.trans hb31
          obtain ⟨g, c2, rfl, hg1, hg2⟩ := own_someI hown3 (by omega)
          have Hown3 : Hid (w3.ownsRow u8.heap.size 45 2 (.slice (some ⟨g, 0, none⟩) (KN + 1) c2) (KN + 1) (cE (trL T l (es.take (k + 1))))) := by
            show World.ownsRow _ _ _ _ _ _ _
            rw [Hs2.out]
            exact hown3
          clear hown3 hfr hgr hown2 hnew hB3 hb31 Hown Hbel u0 u1 hbu KB
          go_wp2
          exact ⟨⟨k + 1, KN + 1, by omega, by go_num, Hown3, Hb3⟩, by simp [intOf]; omega⟩
        · go_wp2_with fail
          refine (ch1.out u).mono ?_
          rintro e w9 ⟨rfl, rfl⟩
          go_wp2_with fail
          refine (ch2.out u).mono ?_
          rintro e w9 ⟨rfl, rfl⟩
          have f1 := KB.out.frozen 1
          have u1 := KB.out.cellAt 1 _ rfl
          obtain ⟨v, hv⟩ : ∃ v, v = u.setCell ⟨wr.heap.size, 1, none⟩ (.int .i64 (l : Int)) := ⟨_, rfl⟩
          have KBv : Hid (Blk v wr.heap.size 45 #[.int .i64 (x : Int), .int .i64 (l : Int)]) := by rw [hv]; exact KB.out.set_ 1 _
          have hbv : Below wr.heap.size wr v := by rw [hv]; exact hbu.setCell (Nat.le_refl _) _
          have Hzv : Hid (v.heap.size = wr.heap.size + 1) := by show _ = _; rw [hv, World.size_setCell]; exact Hzu.out
          go_wp2_with (first | fail)
          rw [← hv]
          clear hv KB hbu Hzu f1 u1
          have KB := KBv
          have hbu := hbv
          have Hzu := Hzv
          clear KBv hbv Hzv
          obtain ⟨z1, Hz1⟩ : ∃ r : Int, Hid ((x : Int) - (shC O x : Nat) = r) := ⟨_, rfl⟩
          obtain ⟨z2, Hz2⟩ : ∃ r : Int, Hid ((l : Int) - (shC O l : Nat) = r) := ⟨_, rfl⟩
          have Hs2 : Hid (trL T l (es.take (k + 1)) = P ++ [(z1, z2)]) := by
            show _ = _
            rw [Hs.out, ← Hz1.out, ← Hz2.out]
            simp [frV]
          have cf1 := fun W => shifted_b x O W (by have := Hb60.out; omega) HO63.out
          have cf2 := fun W => shifted_b l O W (by have := Hb60.out; omega) HO63.out
          rw [Hz1.out] at cf1
          rw [Hz2.out] at cf2
          have cf1 := Lib.hid cf1
          have cf2 := Lib.hid cf2
          have hB3 : Below wr.heap.size wr (v.drew.alloc (.cells #[.int .i64 z1, .int .i64 z2] 45)) := (Below.drew hbu).alloc (by have := Hzu.out; simp; omega) _
          have hown2 := own_below Hown.out hB3
          have hnew : RdE (v.drew.alloc (.cells #[.int .i64 z1, .int .i64 z2] 45)) (some ⟨v.heap.size, 0, none⟩) [(z1, z2)] := blkE_rd (t := 45) (es := [(z1, z2)]) (Blk.new' (n := v.heap.size) _ (by simp))
          have KB2 : Hid (Blk (v.drew.alloc (.cells #[.int .i64 z1, .int .i64 z2] 45)) wr.heap.size 45 #[.int .i64 (x : Int), .int .i64 (l : Int)]) := KB.out.drew.alloc _
          have u0 := KB.out.cellAt 0 _ rfl
          have u1 := KB.out.cellAt 1 _ rfl
          go_wp2
          refine wp_region_noPanic ?_
          refine wp_region_held_drew (S := (fun w' => w'.cell? ⟨wr.heap.size, 0, none⟩ = some (.int .i64 (x : Int)) ∧ w'.cell? ⟨wr.heap.size, 1, none⟩ = some (.int .i64 (l : Int)))) (by kernel_rfl) ?_ (fun hHeld => ?_)
          · (try dsimp only); (first | exact hS3 | exact hS2 | assumption | (first | go_keep | (obtain ⟨hq, _⟩ := bcell ‹Below _ _ _›; (repeat' apply And.intro) <;> (rw [hq _ _ (by first | assumption | omega | (simp; done) | (simp; omega) | (simp; assumption))] <;> (first | assumption | (simp [*]; done))))))
          refine wpAnyH_take_d (i := 0) (d := some 116) (v := ?v30) rfl rfl (by kernel_rfl) (by kernel_rfl) (by kernel_rfl) (fun _ _ _ h => h) (Or.inl ⟨by kernel_rfl, ?y30⟩) (by assumption) ?_
          case y30 => (intro w' hSw; (try dsimp only at hSw); go_simp; try with_reducible rfl)
          try simp only [Act.put, List.setIfInBounds_toArray, List.set_cons_zero, List.set_cons_succ]
          refine wpAnyH_take_d (i := 1) (d := some 117) (v := ?v31) rfl rfl (by kernel_rfl) (by kernel_rfl) (by kernel_rfl) (fun _ _ _ h => h) (Or.inl ⟨by kernel_rfl, ?y31⟩) (by assumption) ?_
          case y31 => (intro w' hSw; (try dsimp only at hSw); go_simp; try with_reducible rfl)
          try simp only [Act.put, List.setIfInBounds_toArray, List.set_cons_zero, List.set_cons_succ]
          refine wpAnyH_take_d (i := 2) (d := some 118) (v := ?v32) rfl rfl (by kernel_rfl) (by kernel_rfl) (by kernel_rfl) (fun _ _ _ h => h) (Or.inl ⟨by kernel_rfl, ?y32⟩) (by assumption) ?_
          case y32 => (intro w' hSw; (try dsimp only at hSw); go_simp; try with_reducible rfl)
          try simp only [Act.put, List.setIfInBounds_toArray, List.set_cons_zero, List.set_cons_succ]
          refine wpAnyH_take_d (i := 3) (d := some 119) (v := ?v33) rfl rfl (by kernel_rfl) (by kernel_rfl) (by kernel_rfl) (fun _ _ _ h => h) (Or.inl ⟨by kernel_rfl, ?y33⟩) (by assumption) ?_
          case y33 => (intro w' hSw; (try dsimp only at hSw); go_simp; try with_reducible rfl)
          try simp only [Act.put, List.setIfInBounds_toArray, List.set_cons_zero, List.set_cons_succ]
          refine wpAnyH_take_d (i := 5) (d := some 121) (v := ?v34) rfl rfl (by kernel_rfl) (by kernel_rfl) (by kernel_rfl) (fun _ _ _ h => h) (Or.inl ⟨by kernel_rfl, ?y34⟩) (by assumption) ?_
          case y34 => (intro w' hSw; (try dsimp only at hSw); go_simp; try with_reducible rfl)
          try simp only [Act.put, List.setIfInBounds_toArray, List.set_cons_zero, List.set_cons_succ]
          refine wpAnyH_take_d (i := 6) (d := some 122) (v := ?v35) rfl rfl (by kernel_rfl) (by kernel_rfl) (by kernel_rfl) (fun _ _ _ h => h) (Or.inl ⟨by kernel_rfl, ?y35⟩) (by assumption) ?_
          case y35 => (intro w' hSw; (try dsimp only at hSw); go_simp; try with_reducible rfl)
          try simp only [Act.put, List.setIfInBounds_toArray, List.set_cons_zero, List.set_cons_succ]
          refine wpAnyH_take_d (i := 7) (d := some 123) (v := ?v36) rfl rfl (by kernel_rfl) (by kernel_rfl) (by kernel_rfl) (fun _ _ _ h => h) (Or.inl ⟨by kernel_rfl, ?y36⟩) (by assumption) ?_
          case y36 => (intro w' hSw; (try dsimp only at hSw); go_simp; try with_reducible rfl)
          try simp only [Act.put, List.setIfInBounds_toArray, List.set_cons_zero, List.set_cons_succ]
          refine wpAnyH_ready (rs := [4]) (by kernel_rfl) (by simp) ?_
          refine AllReadyH.cons rfl (fun K hK => ?_) AllReadyH.nil
          go_simp
          refine (cf1.out _).mono ?_; rintro e w9 ⟨rfl, rfl⟩
          refine hK.out _ _ ?s37 (fun hHeld37 => ?_)
          case s37 => ((try dsimp only); (first | exact hS3 | exact hS2 | assumption | (first | go_keep | (obtain ⟨hq, _⟩ := bcell ‹Below _ _ _›; (repeat' apply And.intro) <;> (rw [hq _ _ (by first | assumption | omega | (simp; done) | (simp; omega) | (simp; assumption))] <;> (first | assumption | (simp [*]; done)))))))
          clear hK K hHeld
          have hHeld := hHeld37; clear hHeld37
          try simp only [Act.put, List.setIfInBounds_toArray, List.set_cons_zero, List.set_cons_succ]
          refine wpAnyH_ready (rs := [8]) (by kernel_rfl) (by simp) ?_
          refine AllReadyH.cons rfl (fun K hK => ?_) AllReadyH.nil
          go_simp
          refine (cf2.out _).mono ?_; rintro e w9 ⟨rfl, rfl⟩
          refine hK.out _ _ ?s38 (fun hHeld38 => ?_)
          case s38 => ((try dsimp only); (first | exact hS3 | exact hS2 | assumption | (first | go_keep | (obtain ⟨hq, _⟩ := bcell ‹Below _ _ _›; (repeat' apply And.intro) <;> (rw [hq _ _ (by first | assumption | omega | (simp; done) | (simp; omega) | (simp; assumption))] <;> (first | assumption | (simp [*]; done)))))))
          clear hK K hHeld
          have hHeld := hHeld38; clear hHeld38
          try simp only [Act.put, List.setIfInBounds_toArray, List.set_cons_zero, List.set_cons_succ]
          refine wpAnyH_take_d (i := 9) (d := some 125) (v := ?v39) rfl rfl (by kernel_rfl) (by kernel_rfl) (by kernel_rfl) (fun _ _ _ h => h) (Or.inl ⟨by kernel_rfl, ?y39⟩) (by assumption) ?_
          case y39 => (intro w' hSw; (try dsimp only at hSw); go_simp; try with_reducible rfl)
          try simp only [Act.put, List.setIfInBounds_toArray, List.set_cons_zero, List.set_cons_succ]
          have hS2 : (v.drew.alloc (.cells #[.int .i64 z1, .int .i64 z2] 45)).cell? ⟨wr.heap.size, 0, none⟩ = some (.int .i64 (x : Int)) ∧ (v.drew.alloc (.cells #[.int .i64 z1, .int .i64 z2] 45)).cell? ⟨wr.heap.size, 1, none⟩ = some (.int .i64 (l : Int)) := ⟨KB2.out.cellAt 0 _ rfl, KB2.out.cellAt 1 _ rfl⟩
          refine wpAnyH_ready (rs := [10]) (by kernel_rfl) (by simp) ?_
          refine AllReadyH.cons rfl (fun K hK => ?_) AllReadyH.nil
          go_simp
          refine hK.out _ _ ?s40 (fun hHeld40 => ?_)
          case s40 => ((try dsimp only); (first | exact hS3 | exact hS2 | assumption | (first | go_keep | (obtain ⟨hq, _⟩ := bcell ‹Below _ _ _›; (repeat' apply And.intro) <;> (rw [hq _ _ (by first | assumption | omega | (simp; done) | (simp; omega) | (simp; assumption))] <;> (first | assumption | (simp [*]; done)))))))
          clear hK K hHeld
          have hHeld := hHeld40; clear hHeld40
          try simp only [Act.put, List.setIfInBounds_toArray, List.set_cons_zero, List.set_cons_succ]
          refine wpAnyH_ready (rs := [11]) (by kernel_rfl) (by simp) ?_
          refine AllReadyH.cons rfl (fun K hK => ?_) AllReadyH.nil
          refine wp_appendE rfl u8.heap.size _ KN P rfl hown2 v.heap.size 0 1 1 [(z1, z2)] rfl rfl hnew (by have := HKk.out; omega) (by omega) (by have := Hzu.out; simp; omega) ?_
          intro v' w3 hown3 hfr hgr
          have hb31 := hfr u8.heap.size wr (Nat.le_refl _) (hB3.mono (by omega))
          have KB3 := KB2.out.grown hgr Hown.out (Nat.le_refl _)
          have hS3 : w3.cell? ⟨wr.heap.size, 0, none⟩ = some (.int .i64 (x : Int)) ∧ w3.cell? ⟨wr.heap.size, 1, none⟩ = some (.int .i64 (l : Int)) := ⟨KB3.cellAt 0 _ rfl, KB3.cellAt 1 _ rfl⟩
          refine hK.out _ _ ?s41 (fun hHeld41 => ?_)
          case s41 => ((try dsimp only); (first | exact hS3 | exact hS2 | assumption | (first | go_keep | (obtain ⟨hq, _⟩ := bcell ‹Below _ _ _›; (repeat' apply And.intro) <;> (rw [hq _ _ (by first | assumption | omega | (simp; done) | (simp; omega) | (simp; assumption))] <;> (first | assumption | (simp [*]; done)))))))
          clear hK K hHeld
          have hHeld := hHeld41; clear hHeld41
          try simp only [Act.put, List.setIfInBounds_toArray, List.set_cons_zero, List.set_cons_succ]
          refine wpAnyH_take_d (i := 12) (d := some 14) (v := ?v42) rfl rfl (by kernel_rfl) (by kernel_rfl) (by kernel_rfl) (fun _ _ _ h => h) (Or.inl ⟨by kernel_rfl, ?y42⟩) (by assumption) ?_
          case y42 => (intro w' hSw; (try dsimp only at hSw); go_simp; try with_reducible rfl)
          try simp only [Act.put, List.setIfInBounds_toArray, List.set_cons_zero, List.set_cons_succ]
          refine wpAnyH_done (by kernel_rfl) ?_ _
          refine NoPanic.normal ?_
          clear hHeld hS3 KB3 KB2 hS2
          have Hb3 : Hid (Below u8.heap.size u8 w3) := Hbel.out.trans hb31
          obtain ⟨g, c2, rfl, hg1, hg2⟩ := own_someI hown3 (by omega)
          have Hown3 : Hid (w3.ownsRow u8.heap.size 45 2 (.slice (some ⟨g, 0, none⟩) (KN + 1) c2) (KN + 1) (cE (trL T l (es.take (k + 1))))) := by
            show World.ownsRow _ _ _ _ _ _ _
            rw [Hs2.out]
            exact hown3
          clear hown3 hfr hgr hown2 hnew hB3 hb31 Hown Hbel u0 u1 hbu KB
          go_wp2
          exact ⟨⟨k + 1, KN + 1, by omega, by go_num, Hown3, Hb3⟩, by simp [intOf]; omega⟩
      · cases q2
        · go_wp2_with fail
          refine (ch2.out u).mono ?_
          rintro e w9 ⟨rfl, rfl⟩
          go_wp2_with fail
          refine (ch1.out u).mono ?_
          rintro e w9 ⟨rfl, rfl⟩
          have f0 := KB.out.frozen 0
          have u0 := KB.out.cellAt 0 _ rfl
          obtain ⟨v, hv⟩ : ∃ v, v = u.setCell ⟨wr.heap.size, 0, none⟩ (.int .i64 (l : Int)) := ⟨_, rfl⟩
          have KBv : Hid (Blk v wr.heap.size 45 #[.int .i64 (l : Int), .int .i64 (y : Int)]) := by rw [hv]; exact KB.out.set_ 0 _
          have hbv : Below wr.heap.size wr v := by rw [hv]; exact hbu.setCell (Nat.le_refl _) _
          have Hzv : Hid (v.heap.size = wr.heap.size + 1) := by show _ = _; rw [hv, World.size_setCell]; exact Hzu.out
          go_wp2_with (first | fail)
          rw [← hv]
          clear hv KB hbu Hzu f0 u0
          have KB := KBv
          have hbu := hbv
          have Hzu := Hzv
          clear KBv hbv Hzv
          obtain ⟨z1, Hz1⟩ : ∃ r : Int, Hid ((l : Int) - (shC O l : Nat) = r) := ⟨_, rfl⟩
          obtain ⟨z2, Hz2⟩ : ∃ r : Int, Hid ((y : Int) - (shC O y : Nat) = r) := ⟨_, rfl⟩
          have Hs2 : Hid (trL T l (es.take (k + 1)) = P ++ [(z1, z2)]) := by
            show _ = _
            rw [Hs.out, ← Hz1.out, ← Hz2.out]
            simp [frV]
          have cf1 := fun W => shifted_b l O W (by have := Hb60.out; omega) HO63.out
          have cf2 := fun W => shifted_b y O W (by have := Hb60.out; omega) HO63.out
          rw [Hz1.out] at cf1
          rw [Hz2.out] at cf2
          have cf1 := Lib.hid cf1
          have cf2 := Lib.hid cf2
          have hB3 : Below wr.heap.size wr (v.drew.alloc (.cells #[.int .i64 z1, .int .i64 z2] 45)) := (Below.drew hbu).alloc (by have := Hzu.out; simp; omega) _
          have hown2 := own_below Hown.out hB3
          have hnew : RdE (v.drew.alloc (.cells #[.int .i64 z1, .int .i64 z2] 45)) (some ⟨v.heap.size, 0, none⟩) [(z1, z2)] := blkE_rd (t := 45) (es := [(z1, z2)]) (Blk.new' (n := v.heap.size) _ (by simp))
          have KB2 : Hid (Blk (v.drew.alloc (.cells #[.int .i64 z1, .int .i64 z2] 45)) wr.heap.size 45 #[.int .i64 (l : Int), .int .i64 (y : Int)]) := KB.out.drew.alloc _
          have u0 := KB.out.cellAt 0 _ rfl
          have u1 := KB.out.cellAt 1 _ rfl
          go_wp2
          refine wp_region_noPanic ?_
          refine wp_region_held_drew (S := (fun w' => w'.cell? ⟨wr.heap.size, 0, none⟩ = some (.int .i64 (l : Int)) ∧ w'.cell? ⟨wr.heap.size, 1, none⟩ = some (.int .i64 (y : Int)))) (by kernel_rfl) ?_ (fun hHeld => ?_)
          · (try dsimp only); (first | exact hS3 | exact hS2 | assumption | (first | go_keep | (obtain ⟨hq, _⟩ := bcell ‹Below _ _ _›; (repeat' apply And.intro) <;> (rw [hq _ _ (by first | assumption | omega | (simp; done) | (simp; omega) | (simp; assumption))] <;> (first | assumption | (simp [*]; done))))))
          refine wpAnyH_take_d (i := 0) (d := some 116) (v := ?v43) rfl rfl (by kernel_rfl) (by kernel_rfl) (by kernel_rfl) (fun _ _ _ h => h) (Or.inl ⟨by kernel_rfl, ?y43⟩) (by assumption) ?_
          case y43 => (intro w' hSw; (try dsimp only at hSw); go_simp; try with_reducible rfl)
          try simp only [Act.put, List.setIfInBounds_toArray, List.set_cons_zero, List.set_cons_succ]
          refine wpAnyH_take_d (i := 1) (d := some 117) (v := ?v44) rfl rfl (by kernel_rfl) (by kernel_rfl) (by kernel_rfl) (fun _ _ _ h => h) (Or.inl ⟨by kernel_rfl, ?y44⟩) (by assumption) ?_
          case y44 => (intro w' hSw; (try dsimp only at hSw); go_simp; try with_reducible rfl)
          try simp only [Act.put, List.setIfInBounds_toArray, List.set_cons_zero, List.set_cons_succ]
          refine wpAnyH_take_d (i := 2) (d := some 118) (v := ?v45) rfl rfl (by kernel_rfl) (by kernel_rfl) (by kernel_rfl) (fun _ _ _ h => h) (Or.inl ⟨by kernel_rfl, ?y45⟩) (by assumption) ?_
          case y45 => (intro w' hSw; (try dsimp only at hSw); go_simp; try with_reducible rfl)
          try simp only [Act.put, List.setIfInBounds_toArray, List.set_cons_zero, List.set_cons_succ]
          refine wpAnyH_take_d (i := 3) (d := some 119) (v := ?v46) rfl rfl (by kernel_rfl) (by kernel_rfl) (by kernel_rfl) (fun _ _ _ h => h) (Or.inl ⟨by kernel_rfl, ?y46⟩) (by assumption) ?_
          case y46 => (intro w' hSw; (try dsimp only at hSw); go_simp; try with_reducible rfl)
          try simp only [Act.put, List.setIfInBounds_toArray, List.set_cons_zero, List.set_cons_succ]
          refine wpAnyH_take_d (i := 5) (d := some 121) (v := ?v47) rfl rfl (by kernel_rfl) (by kernel_rfl) (by kernel_rfl) (fun _ _ _ h => h) (Or.inl ⟨by kernel_rfl, ?y47⟩) (by assumption) ?_
          case y47 => (intro w' hSw; (try dsimp only at hSw); go_simp; try with_reducible rfl)
          try simp only [Act.put, List.setIfInBounds_toArray, List.set_cons_zero, List.set_cons_succ]
          refine wpAnyH_take_d (i := 6) (d := some 122) (v := ?v48) rfl rfl (by kernel_rfl) (by kernel_rfl) (by kernel_rfl) (fun _ _ _ h => h) (Or.inl ⟨by kernel_rfl, ?y48⟩) (by assumption) ?_
          case y48 => (intro w' hSw; (try dsimp only at hSw); go_simp; try with_reducible rfl)
          try simp only [Act.put, List.setIfInBounds_toArray, List.set_cons_zero, List.set_cons_succ]
          refine wpAnyH_take_d (i := 7) (d := some 123) (v := ?v49) rfl rfl (by kernel_rfl) (by kernel_rfl) (by kernel_rfl) (fun _ _ _ h => h) (Or.inl ⟨by kernel_rfl, ?y49⟩) (by assumption) ?_
          case y49 => (intro w' hSw; (try dsimp only at hSw); go_simp; try with_reducible rfl)
          try simp only [Act.put, List.setIfInBounds_toArray, List.set_cons_zero, List.set_cons_succ]
          refine wpAnyH_ready (rs := [4]) (by kernel_rfl) (by simp) ?_
          refine AllReadyH.cons rfl (fun K hK => ?_) AllReadyH.nil
          go_simp
          refine (cf1.out _).mono ?_; rintro e w9 ⟨rfl, rfl⟩
          refine hK.out _ _ ?s50 (fun hHeld50 => ?_)
          case s50 => ((try dsimp only); (first | exact hS3 | exact hS2 | assumption | (first | go_keep | (obtain ⟨hq, _⟩ := bcell ‹Below _ _ _›; (repeat' apply And.intro) <;> (rw [hq _ _ (by first | assumption | omega | (simp; done) | (simp; omega) | (simp; assumption))] <;> (first | assumption | (simp [*]; done)))))))
          clear hK K hHeld
          have hHeld := hHeld50; clear hHeld50
          try simp only [Act.put, List.setIfInBounds_toArray, List.set_cons_zero, List.set_cons_succ]
          refine wpAnyH_ready (rs := [8]) (by kernel_rfl) (by simp) ?_
          refine AllReadyH.cons rfl (fun K hK => ?_) AllReadyH.nil
          go_simp
          refine (cf2.out _).mono ?_; rintro e w9 ⟨rfl, rfl⟩
          refine hK.out _ _ ?s51 (fun hHeld51 => ?_)
          case s51 => ((try dsimp only); (first | exact hS3 | exact hS2 | assumption | (first | go_keep | (obtain ⟨hq, _⟩ := bcell ‹Below _ _ _›; (repeat' apply And.intro) <;> (rw [hq _ _ (by first | assumption | omega | (simp; done) | (simp; omega) | (simp; assumption))] <;> (first | assumption | (simp [*]; done)))))))
          clear hK K hHeld
          have hHeld := hHeld51; clear hHeld51
          try simp only [Act.put, List.setIfInBounds_toArray, List.set_cons_zero, List.set_cons_succ]
          refine wpAnyH_take_d (i := 9) (d := some 125) (v := ?v52) rfl rfl (by kernel_rfl) (by kernel_rfl) (by kernel_rfl) (fun _ _ _ h => h) (Or.inl ⟨by kernel_rfl, ?y52⟩) (by assumption) ?_
          case y52 => (intro w' hSw; (try dsimp only at hSw); go_simp; try with_reducible rfl)
          try simp only [Act.put, List.setIfInBounds_toArray, List.set_cons_zero, List.set_cons_succ]
          have hS2 : (v.drew.alloc (.cells #[.int .i64 z1, .int .i64 z2] 45)).cell? ⟨wr.heap.size, 0, none⟩ = some (.int .i64 (l : Int)) ∧ (v.drew.alloc (.cells #[.int .i64 z1, .int .i64 z2] 45)).cell? ⟨wr.heap.size, 1, none⟩ = some (.int .i64 (y : Int)) := ⟨KB2.out.cellAt 0 _ rfl, KB2.out.cellAt 1 _ rfl⟩
          refine wpAnyH_ready (rs := [10]) (by kernel_rfl) (by simp) ?_
          refine AllReadyH.cons rfl (fun K hK => ?_) AllReadyH.nil
          go_simp
          refine hK.out _ _ ?s53 (fun hHeld53 => ?_)
          case s53 => ((try dsimp only); (first | exact hS3 | exact hS2 | assumption | (first | go_keep | (obtain ⟨hq, _⟩ := bcell ‹Below _ _ _›; (repeat' apply And.intro) <;> (rw [hq _ _ (by first | assumption | omega | (simp; done) | (simp; omega) | (simp; assumption))] <;> (first | assumption | (simp [*]; done)))))))
          clear hK K hHeld
          have hHeld := hHeld53; clear hHeld53
          try simp only [Act.put, List.setIfInBounds_toArray, List.set_cons_zero, List.set_cons_succ]
          refine wpAnyH_ready (rs := [11]) (by kernel_rfl) (by simp) ?_
          refine AllReadyH.cons rfl (fun K hK => ?_) AllReadyH.nil
          refine wp_appendE rfl u8.heap.size _ KN P rfl hown2 v.heap.size 0 1 1 [(z1, z2)] rfl rfl hnew (by have := HKk.out; omega) (by omega) (by have := Hzu.out; simp; omega) ?_
          intro v' w3 hown3 hfr hgr
          have hb31 := hfr u8.heap.size wr (Nat.le_refl _) (hB3.mono (by omega))
          have KB3 := KB2.out.grown hgr Hown.out (Nat.le_refl _)
          have hS3 : w3.cell? ⟨wr.heap.size, 0, none⟩ = some (.int .i64 (l : Int)) ∧ w3.cell? ⟨wr.heap.size, 1, none⟩ = some (.int .i64 (y : Int)) := ⟨KB3.cellAt 0 _ rfl, KB3.cellAt 1 _ rfl⟩
          refine hK.out _ _ ?s54 (fun hHeld54 => ?_)
          case s54 => ((try dsimp only); (first | exact hS3 | exact hS2 | assumption | (first | go_keep | (obtain ⟨hq, _⟩ := bcell ‹Below _ _ _›; (repeat' apply And.intro) <;> (rw [hq _ _ (by first | assumption | omega | (simp; done) | (simp; omega) | (simp; assumption))] <;> (first | assumption | (simp [*]; done)))))))
          clear hK K hHeld
          have hHeld := hHeld54; clear hHeld54
          try simp only [Act.put, List.setIfInBounds_toArray, List.set_cons_zero, List.set_cons_succ]
          refine wpAnyH_take_d (i := 12) (d := some 14) (v := ?v55) rfl rfl (by kernel_rfl) (by kernel_rfl) (by kernel_rfl) (fun _ _ _ h => h) (Or.inl ⟨by kernel_rfl, ?y55⟩) (by assumption) ?_
          case y55 => (intro w' hSw; (try dsimp only at hSw); go_simp; try with_reducible rfl)
          try simp only [Act.put, List.setIfInBounds_toArray, List.set_cons_zero, List.set_cons_succ]
          refine wpAnyH_done (by kernel_rfl) ?_ _
          refine NoPanic.normal ?_
          clear hHeld hS3 KB3 KB2 hS2
          have Hb3 : Hid (Below u8.heap.size u8 w3) := Hbel.out.trans hb31
          obtain ⟨g, c2, rfl, hg1, hg2⟩ := own_someI hown3 (by omega)
          have Hown3 : Hid (w3.ownsRow u8.heap.size 45 2 (.slice (some ⟨g, 0, none⟩) (KN + 1) c2) (KN + 1) (cE (trL T l (es.take (k + 1))))) := by
            show World.ownsRow _ _ _ _ _ _ _
            rw [Hs2.out]
            exact hown3
          clear hown3 hfr hgr hown2 hnew hB3 hb31 Hown Hbel u0 u1 hbu KB
          go_wp2
          exact ⟨⟨k + 1, KN + 1, by omega, by go_num, Hown3, Hb3⟩, by simp [intOf]; omega⟩
        · go_wp2_with fail
          refine (ch2.out u).mono ?_
          rintro e w9 ⟨rfl, rfl⟩
          have Hs2 : Hid (trL T l (es.take (k + 1)) = P) := by show _ = _; rw [Hs.out, if_pos (by rfl)]
          have Hbu : Hid (Below u8.heap.size u8 u) := Hbel.out.trans (hbu.mono hsz)
          have hownu := Lib.hid (own_below Hown.out hbu)
          go_wp2
          exact ⟨⟨k + 1, KN, by omega, by go_num, by { show World.ownsRow _ _ _ _ _ _ _; rw [Hs2.out]; exact hownu.out }, Hbu⟩, by simp [intOf]; omega⟩
    · obtain rfl : k = L := by omega
      have hfull : es.take k = es := List.take_of_length_le (by rw [HL.out]; exact Nat.le_refl _)
      rw [hfull] at Hown
      have hKl := own_lenE Hown.out
      subst hKl
      have cm := cm.out A1 c1 wr (own_rdE Hown.out)
      have HZ := Lib.hid (HZ8.out.below Hbel.out HZ8.out.lt)
      have HG := Lib.hid (HG8.out.below Hbel.out HG8.out.lt)
      have Hbw : Hid (Below w.heap.size w wr) := Hb8.out.trans (Hbel.out.mono Hb8.out.size)
      obtain ⟨KN, HKK⟩ : ∃ KN, Hid ((trL T l es).length = KN) := ⟨_, rfl⟩
      rw [HKK.out] at cm
      simp only [HKK.out]
      have k0 := HG.out.cellAt 0 _ rfl
      go_wp2_with fail
      refine cm.mono ?_
      rintro e w4 ⟨A3, c3, rfl, hF, hb4⟩
      have HZ4 := Lib.hid (HZ.out.below hb4 HZ.out.lt)
      have x0 := HZ4.out.cellAt 0 _ rfl
      have x1 : (w4.setCell ⟨w.heap.size + 1, 0, none⟩ (.int .i64 (n - 2))).cell? ⟨w.heap.size + 1, 1, none⟩ = some (.slice none 0 0) := (sc_other (by simp)).trans (HZ4.out.cellAt 1 _ rfl)
      have f0 := HZ4.out.frozen 0
      have f1 := HZ4.out.frozen 1
      have HF := Lib.hid hF
      have zz := HZ.out.lt
      have Hb4 : Hid (Below w.heap.size w w4) := Hbw.out.trans (hb4.mono (by omega))
      clear hF hb4 cm HG HZ Hbel k0 k1
      go_wp2
      refine ret_cell_tmp Try.results13 Try.underlying28 rfl (by kernel_rfl) rfl ((HZ4.out.set_ 0 (.int .i64 (n - 2))).set_ 1 (.slice A3 KN c3)) rfl rfl ⟨⟨A3, c3, ?_, FrE.mono (n0 := wr.heap.size) ?_ (by omega)⟩, (Hb4.out.setCell (by show w.heap.size ≤ w.heap.size + 1; omega) _).setCell (by show w.heap.size ≤ w.heap.size + 1; omega) _⟩
      · rw [madeE_len, HKK.out]; rfl
      · exact HF.out.away (((Only.refl _ _).set 0 _).set 1 _ : Only (some ⟨w.heap.size + 1, 0, none⟩) w4 _) zz
end Go.Proofs.Ytjgmoffkecnmcaa
