/- The function values of impl.StarProduct. No statement of the program is proved here. -/
import Derived.Test.YtjgmoffkecnmcaaSr1
import Derived.Test.YtjgmoffkecnmcaaGw1
import Derived.Test.YtjgmoffkecnmcaaCd
namespace Go.Proofs.Ytjgmoffkecnmcaa
open Go.RowKit
set_option linter.unusedSimpArgs false
set_option linter.unusedVariables false
set_option maxRecDepth 20000

theorem ent_star1 : Ent 22 := enters_of Try.func22 (by kernel_rfl) rfl
theorem ent_star2 : Ent 25 := enters_of Try.func25 (by kernel_rfl) rfl

set_option maxHeartbeats 2000000 in
theorem star1_b (gg gv gh gx : Nat) (n : Int) (A : Option Addr) (L c : Nat) (v m : Int) (B : Option Addr) (M d : Nat) (x : Int) (w : World) (q1 q2 : Bool) (h1 : Hid (inB v 0 (wrap64 (n - 1)) = q1)) (h2 : Hid (inB x 0 (wrap64 (m - 1)) = q2))
    (kg : Blk w gg 28 #[.int .i64 n, .slice A L c]) (kv : Blk w gv 2 #[.int .i64 v]) (kh : Blk w gh 28 #[.int .i64 m, .slice B M d]) (kx : Blk w gx 2 #[.int .i64 x]) :
    Calls Try.prog 22 #[.pointer (some ⟨gg, 0, none⟩), .pointer (some ⟨gv, 0, none⟩), .pointer (some ⟨gh, 0, none⟩), .pointer (some ⟨gx, 0, none⟩)] w fun e w' => e = .returned (.bool (q1 && q2)) ∧ Below w.heap.size w w' := by
  have c1 := Lib.hid fun W => isVertex_b n A L c v W q1 h1
  have c2 := Lib.hid fun W => isVertex_b m B M d x W q2 h2
  have k0 := kg.cellAt 0 _ rfl
  have k1 := kg.cellAt 1 _ rfl
  have k2 := kv.cellAt 0 _ rfl
  have Kh := Lib.hid kh
  have Kx := Lib.hid kx
  clear kg kv kh kx h1 h2
  go_enter Try.func22, Try.ntmps22
  go_wp2_with fail
  refine (c1.out _).mono ?_
  rintro e w1 ⟨rfl, hb1⟩
  cases q1
  · go_wp2
    go_ret
    exact ⟨rfl, hb1⟩
  · have k3 := (Kh.out.below hb1 Kh.out.lt).cellAt 0 _ rfl
    have k4 := (Kh.out.below hb1 Kh.out.lt).cellAt 1 _ rfl
    have k5 := (Kx.out.below hb1 Kx.out.lt).cellAt 0 _ rfl
    have Hb1 := Lib.hid hb1
    clear k0 k1 k2 hb1
    go_wp2_with fail
    refine (c2.out _).mono ?_
    rintro e w2 ⟨rfl, hb2⟩
    go_wp2
    go_ret
    exact ⟨by rw [Bool.true_and]; rfl, Hb1.out.trans (hb2.mono Hb1.out.size)⟩

set_option maxHeartbeats 8000000 in
theorem star2_b (gg gv gh gx : Nat) (n : Int) (A : Option Addr) (c : Nat) (es : List (Int × Int)) (v : Nat) (m : Int) (B : Option Addr) (d : Nat) (hs : List (Int × Int)) (x : Nat) (w : World) (hl1 : es.length ≤ 1000) (hl2 : hs.length ≤ 1000) (hr1 : RdE w A es) (hr2 : RdE w B hs)
    (hq1 : Hid (isGraphB n es = true)) (hq2 : Hid (isGraphB m hs = true)) (hv : Hid (inB (v : Int) 0 (n - 1) = true)) (hx : Hid (inB (x : Int) 0 (m - 1) = true)) (hn2 : n ≠ 2) (hm2 : m ≠ 2)
    (kg : Blk w gg 28 #[.int .i64 n, .slice A es.length c]) (kv : Blk w gv 2 #[.int .i64 (v : Int)]) (kh : Blk w gh 28 #[.int .i64 m, .slice B hs.length d]) (kx : Blk w gx 2 #[.int .i64 (x : Int)]) :
    Calls Try.prog 25 #[.pointer (some ⟨gg, 0, none⟩), .pointer (some ⟨gv, 0, none⟩), .pointer (some ⟨gh, 0, none⟩), .pointer (some ⟨gx, 0, none⟩)] w fun e w' => ∃ A' c', e = .returned (.slice A' (starL n es v hs x 3).length c') ∧ RdE w' A' (starL n es v hs x 3) ∧ Below w.heap.size w w' := by
  have hn := isGraphB_n hq1.out
  have hm := isGraphB_n hq2.out
  have hvb := inB_true.1 hv.out
  have hxb := inB_true.1 hx.out
  have hin1 := isGraphB_in hq1.out
  have hin2 := isGraphB_in hq2.out
  have hp1 := woL_pos hq1.out hv.out hn2 0
  have hp2 := woL_pos hq2.out hx.out hm2 (n - 1)
  obtain ⟨ht1, he1, hu⟩ := ends_three hq1.out hv.out
  obtain ⟨ht2, he2, hy⟩ := ends_three hq2.out hx.out
  have pv : (((2 ^ v : Nat)) : Int) = (2 : Int) ^ v := by rw [Int.natCast_pow]; rfl
  have px : (((2 ^ x : Nat)) : Int) = (2 : Int) ^ x := by rw [Int.natCast_pow]; rfl
  have hv63 : 2 ^ v < 2 ^ 63 := Nat.pow_lt_pow_right (by decide) (by omega)
  have hx63 : 2 ^ x < 2 ^ 63 := Nat.pow_lt_pow_right (by decide) (by omega)
  have cw1 := fun W (hW : Below w.heap.size w W) => without_b n A c es n.toNat (2 ^ v) 0 W hl1 (by omega) hv63 (by omega) hin1 (hr1.below hW)
  have cw2 := fun W (hW : Below w.heap.size w W) => without_b m B d hs m.toNat (2 ^ x) (n - 1) W hl2 (by omega) hx63 (by omega) hin2 (hr2.below hW)
  rw [pv] at cw1
  rw [px] at cw2
  have cw1 := Lib.hid cw1
  have cw2 := Lib.hid cw2
  have cc := Lib.hid fun (g c A1c A2c : Nat) (A1 A2 : Option Addr) (W : World) h3 h4 h5 => concat2_b g c A1c A2c A1 A2 (woL (2 ^ v) 0 es) (woL (2 ^ x) (n - 1) hs) W hp1 hp2 (by have := woL_len (2 ^ v) 0 es; omega) (by have := woL_len (2 ^ x) (n - 1) hs; omega) h3 h4 h5
  have ce1 := fun W (hW : Below w.heap.size w W) => ends_own n A c es n.toNat v W (by omega) (by omega) hin1 (by omega) (hr1.below hW)
  have ce2 := fun W (hW : Below w.heap.size w W) => ends_own m B d hs m.toNat x W (by omega) (by omega) hin2 (by omega) (hr2.below hW)
  simp only [he1] at ce1
  simp only [he2] at ce2
  have ce1 := Lib.hid ce1
  have ce2 := Lib.hid ce2
  have Hbl : Hid ((starB n es v hs x).length = (woL (2 ^ v) 0 es).length + (woL (2 ^ x) (n - 1) hs).length) := by show _ = _; rw [starB, List.length_append]
  have Hbl2 : Hid ((starB n es v hs x).length ≤ 2000) := by show _ ≤ _; have := starB_len n es v hs x; omega
  have Hu := Lib.hid hu
  have Hy := Lib.hid hy
  have He1 := Lib.hid he1
  have He2 := Lib.hid he2
  have Hvb : Hid (v < 60 ∧ x < 60 ∧ 2 ≤ n ∧ n ≤ 20 ∧ m ≤ 20) := by show _ ∧ _; omega
  have W1 : Hid (IntKind.i64.wrap (n - 1) = n - 1) := IntWalk.i64_in _ (by omega)
  obtain ⟨L, HL⟩ : ∃ L, Hid (es.length = L) := ⟨_, rfl⟩
  obtain ⟨M, HM⟩ : ∃ L, Hid (hs.length = L) := ⟨_, rfl⟩
  rw [HL.out] at kg cw1 ce1
  rw [HM.out] at kh cw2 ce2
  have Kg := Lib.hid kg
  have Kv := Lib.hid kv
  have Kh := Lib.hid kh
  have Kx := Lib.hid kx
  have k0 := kg.cellAt 0 _ rfl
  have k1 := kg.cellAt 1 _ rfl
  have k2 := kv.cellAt 0 _ rfl
  have k3 := kh.cellAt 0 _ rfl
  have k4 := kh.cellAt 1 _ rfl
  have k5 := kx.cellAt 0 _ rfl
  have zg := kg.lt
  have zv := kv.lt
  have zh := kh.lt
  have zx := kx.lt
  have e1 := wrapU_pow (show v < 64 by omega)
  have e2 := wrapU_pow (show x < 64 by omega)
  have v63 : v < 64 := by omega
  have x63 : x < 64 := by omega
  clear kg kv kh kx hr1 hr2 hq1 hq2 hv hx hn2 hm2 hn hm hvb hxb hin1 hin2 hp1 hp2 ht1 ht2 he1 he2 hu hy pv px hv63 hx63 hl1 hl2
  go_enter Try.func25, Try.ntmps25
  go_wp2
  have w1' := W1.out
  refine wp_region_noPanic ?_
  refine wp_region_held_drew (S := (fun w' => w'.cell? ⟨gg, 0, none⟩ = some (.int .i64 n) ∧ w'.cell? ⟨gg, 1, none⟩ = some (.slice A L c) ∧ w'.cell? ⟨gv, 0, none⟩ = some (.int .i64 (v : Int)) ∧ w'.cell? ⟨gh, 0, none⟩ = some (.int .i64 m) ∧ w'.cell? ⟨gh, 1, none⟩ = some (.slice B M d) ∧ w'.cell? ⟨gx, 0, none⟩ = some (.int .i64 (x : Int)))) (by kernel_rfl) ?_ (fun hHeld => ?_)
  · (try dsimp only); (first | exact hS2 | assumption | (first | go_keep | (obtain ⟨hq, _⟩ := bcell ‹Below _ _ _›; (repeat' apply And.intro) <;> (rw [hq _ _ (by first | assumption | omega | (simp; done) | (simp; omega) | (simp; assumption))] <;> (first | assumption | (simp [*]; done))))))
  refine wpAnyH_take_d (i := 0) (d := some 9) (v := ?v1) rfl rfl (by kernel_rfl) (by kernel_rfl) (by kernel_rfl) (fun _ _ _ h => h) (Or.inl ⟨by kernel_rfl, ?y1⟩) (by assumption) ?_
  case y1 => (intro w' hSw; (try dsimp only at hSw); go_simp; try with_reducible rfl)
  try simp only [Act.put, List.setIfInBounds_toArray, List.set_cons_zero, List.set_cons_succ]
  refine wpAnyH_take_d (i := 1) (d := some 10) (v := ?v2) rfl rfl (by kernel_rfl) (by kernel_rfl) (by kernel_rfl) (fun _ _ _ h => h) (Or.inl ⟨by kernel_rfl, ?y2⟩) (by assumption) ?_
  case y2 => (intro w' hSw; (try dsimp only at hSw); go_simp; try with_reducible rfl)
  try simp only [Act.put, List.setIfInBounds_toArray, List.set_cons_zero, List.set_cons_succ]
  refine wpAnyH_take_d (i := 2) (d := some 11) (v := ?v3) rfl rfl (by kernel_rfl) (by kernel_rfl) (by kernel_rfl) (fun _ _ _ h => h) (Or.inl ⟨by kernel_rfl, ?y3⟩) (by assumption) ?_
  case y3 => (intro w' hSw; (try dsimp only at hSw); go_simp; try with_reducible rfl)
  try simp only [Act.put, List.setIfInBounds_toArray, List.set_cons_zero, List.set_cons_succ]
  refine wpAnyH_take_d (i := 4) (d := some 13) (v := ?v4) rfl rfl (by kernel_rfl) (by kernel_rfl) (by kernel_rfl) (fun _ _ _ h => h) (Or.inl ⟨by kernel_rfl, ?y4⟩) (by assumption) ?_
  case y4 => (intro w' hSw; (try dsimp only at hSw); go_simp; try with_reducible rfl)
  try simp only [Act.put, List.setIfInBounds_toArray, List.set_cons_zero, List.set_cons_succ]
  refine wpAnyH_take_d (i := 5) (d := some 14) (v := ?v5) rfl rfl (by kernel_rfl) (by kernel_rfl) (by kernel_rfl) (fun _ _ _ h => h) (Or.inl ⟨by kernel_rfl, ?y5⟩) (by assumption) ?_
  case y5 => (intro w' hSw; (try dsimp only at hSw); go_simp; try with_reducible rfl)
  try simp only [Act.put, List.setIfInBounds_toArray, List.set_cons_zero, List.set_cons_succ]
  refine wpAnyH_take_d (i := 6) (d := some 15) (v := ?v6) rfl rfl (by kernel_rfl) (by kernel_rfl) (by kernel_rfl) (fun _ _ _ h => h) (Or.inl ⟨by kernel_rfl, ?y6⟩) (by assumption) ?_
  case y6 => (intro w' hSw; (try dsimp only at hSw); go_simp; try with_reducible rfl)
  try simp only [Act.put, List.setIfInBounds_toArray, List.set_cons_zero, List.set_cons_succ]
  refine wpAnyH_take_d (i := 7) (d := some 16) (v := ?v7) rfl rfl (by kernel_rfl) (by kernel_rfl) (by kernel_rfl) (fun _ _ _ h => h) (Or.inl ⟨by kernel_rfl, ?y7⟩) (by assumption) ?_
  case y7 => (intro w' hSw; (try dsimp only at hSw); go_simp; try with_reducible rfl)
  try simp only [Act.put, List.setIfInBounds_toArray, List.set_cons_zero, List.set_cons_succ]
  refine wpAnyH_take_d (i := 8) (d := some 17) (v := ?v8) rfl rfl (by kernel_rfl) (by kernel_rfl) (by kernel_rfl) (fun _ _ _ h => h) (Or.inl ⟨by kernel_rfl, ?y8⟩) (by assumption) ?_
  case y8 => (intro w' hSw; (try dsimp only at hSw); go_simp; try with_reducible rfl)
  try simp only [Act.put, List.setIfInBounds_toArray, List.set_cons_zero, List.set_cons_succ]
  refine wpAnyH_take_d (i := 9) (d := some 18) (v := ?v9) rfl rfl (by kernel_rfl) (by kernel_rfl) (by kernel_rfl) (fun _ _ _ h => h) (Or.inl ⟨by kernel_rfl, ?y9⟩) (by assumption) ?_
  case y9 => (intro w' hSw; (try dsimp only at hSw); go_simp; try with_reducible rfl)
  try simp only [Act.put, List.setIfInBounds_toArray, List.set_cons_zero, List.set_cons_succ]
  refine wpAnyH_ready (rs := [3]) (by kernel_rfl) (by simp) ?_
  refine AllReadyH.cons rfl (fun K hK => ?_) AllReadyH.nil
  go_simp
  refine (cw1.out _ (by (repeat' (first | (with_reducible exact Below.refl _ _) | (with_reducible assumption) | (with_reducible refine Below.alloc ?_ ?_ _) | (with_reducible refine Below.drew ?_) | (with_reducible refine below_drewN ?_ _) | (with_reducible refine Below.setCell ?_ ?_ _) | (with_reducible refine Below.trans ?_ (Below.mono (by assumption) ?_)) | (first | omega | (simp only [World.size_alloc, World.size_setCell, World.size_drew]; omega) | (simp; omega) | (simp; done)))))).mono ?_; rintro e w1 ⟨A1, c1, rfl, hF1, hb1⟩; have z1 := hb1.size; (try simp only [World.size_alloc, World.size_setCell, World.size_drew] at z1)
  refine hK.out _ _ ?s10 (fun hHeld10 => ?_)
  case s10 => ((try dsimp only); (first | exact hS2 | assumption | (first | go_keep | (obtain ⟨hq, _⟩ := bcell ‹Below _ _ _›; (repeat' apply And.intro) <;> (rw [hq _ _ (by first | assumption | omega | (simp; done) | (simp; omega) | (simp; assumption))] <;> (first | assumption | (simp [*]; done)))))))
  clear hK K hHeld
  have hHeld := hHeld10; clear hHeld10
  try simp only [Act.put, List.setIfInBounds_toArray, List.set_cons_zero, List.set_cons_succ]
  refine wpAnyH_ready (rs := [10]) (by kernel_rfl) (by simp) ?_
  refine AllReadyH.cons rfl (fun K hK => ?_) AllReadyH.nil
  go_simp
  refine (cw2.out _ (by (repeat' (first | (with_reducible exact Below.refl _ _) | (with_reducible assumption) | (with_reducible refine Below.alloc ?_ ?_ _) | (with_reducible refine Below.drew ?_) | (with_reducible refine below_drewN ?_ _) | (with_reducible refine Below.setCell ?_ ?_ _) | (with_reducible refine Below.trans ?_ (Below.mono (by assumption) ?_)) | (first | omega | (simp only [World.size_alloc, World.size_setCell, World.size_drew]; omega) | (simp; omega) | (simp; done)))))).mono ?_; rintro e w2 ⟨A2, c2, rfl, hF2, hb2⟩; have z2 := hb2.size; (try simp only [World.size_alloc, World.size_setCell, World.size_drew] at z2)
  refine hK.out _ _ ?s11 (fun hHeld11 => ?_)
  case s11 => ((try dsimp only); (first | exact hS2 | assumption | (first | go_keep | (obtain ⟨hq, _⟩ := bcell ‹Below _ _ _›; (repeat' apply And.intro) <;> (rw [hq _ _ (by first | assumption | omega | (simp; done) | (simp; omega) | (simp; assumption))] <;> (first | assumption | (simp [*]; done)))))))
  clear hK K hHeld
  have hHeld := hHeld11; clear hHeld11
  try simp only [Act.put, List.setIfInBounds_toArray, List.set_cons_zero, List.set_cons_succ]
  have b2 : Below w.heap.size w w2 := (Below.drew (Below.refl _ _)).trans (hb1.trans (hb2.mono z1)); have b3 : Below w.heap.size w (w2.alloc (.cells #[.slice A1 (woL (2 ^ v) 0 es).length c1, .slice A2 (woL (2 ^ x) (n - 1) hs).length c2] 26)) := b2.alloc b2.size _; have hS2 : (w2.alloc (.cells #[.slice A1 (woL (2 ^ v) 0 es).length c1, .slice A2 (woL (2 ^ x) (n - 1) hs).length c2] 26)).cell? ⟨gg, 0, none⟩ = some (.int .i64 n) ∧ (w2.alloc (.cells #[.slice A1 (woL (2 ^ v) 0 es).length c1, .slice A2 (woL (2 ^ x) (n - 1) hs).length c2] 26)).cell? ⟨gg, 1, none⟩ = some (.slice A L c) ∧ (w2.alloc (.cells #[.slice A1 (woL (2 ^ v) 0 es).length c1, .slice A2 (woL (2 ^ x) (n - 1) hs).length c2] 26)).cell? ⟨gv, 0, none⟩ = some (.int .i64 (v : Int)) ∧ (w2.alloc (.cells #[.slice A1 (woL (2 ^ v) 0 es).length c1, .slice A2 (woL (2 ^ x) (n - 1) hs).length c2] 26)).cell? ⟨gh, 0, none⟩ = some (.int .i64 m) ∧ (w2.alloc (.cells #[.slice A1 (woL (2 ^ v) 0 es).length c1, .slice A2 (woL (2 ^ x) (n - 1) hs).length c2] 26)).cell? ⟨gh, 1, none⟩ = some (.slice B M d) ∧ (w2.alloc (.cells #[.slice A1 (woL (2 ^ v) 0 es).length c1, .slice A2 (woL (2 ^ x) (n - 1) hs).length c2] 26)).cell? ⟨gx, 0, none⟩ = some (.int .i64 (x : Int)) := ⟨((bcell b3).1 _ _ zg).trans k0, ((bcell b3).1 _ _ zg).trans k1, ((bcell b3).1 _ _ zv).trans k2, ((bcell b3).1 _ _ zh).trans k3, ((bcell b3).1 _ _ zh).trans k4, ((bcell b3).1 _ _ zx).trans k5⟩
  refine wpAnyH_ready (rs := [11]) (by kernel_rfl) (by simp) ?_
  refine AllReadyH.cons rfl (fun K hK => ?_) AllReadyH.nil
  go_simp
  refine hK.out _ _ ?s12 (fun hHeld12 => ?_)
  case s12 => ((try dsimp only); (first | exact hS2 | assumption | (first | go_keep | (obtain ⟨hq, _⟩ := bcell ‹Below _ _ _›; (repeat' apply And.intro) <;> (rw [hq _ _ (by first | assumption | omega | (simp; done) | (simp; omega) | (simp; assumption))] <;> (first | assumption | (simp [*]; done)))))))
  clear hK K hHeld
  have hHeld := hHeld12; clear hHeld12
  try simp only [Act.put, List.setIfInBounds_toArray, List.set_cons_zero, List.set_cons_succ]
  refine wpAnyH_ready (rs := [12]) (by kernel_rfl) (by simp) ?_
  refine AllReadyH.cons rfl (fun K hK => ?_) AllReadyH.nil
  go_simp
  refine (cc.out w2.heap.size 2 c1 c2 A1 A2 (w2.alloc (.cells #[.slice A1 (woL (2 ^ v) 0 es).length c1, .slice A2 (woL (2 ^ x) (n - 1) hs).length c2] 26)) (Blk.new' (n := w2.heap.size) _ rfl) ((hF1.rd.below hb2).below (Below.alloc (Below.refl _ _) (Nat.le_refl _) _)) (hF2.rd.below (Below.alloc (Below.refl _ _) (Nat.le_refl _) _))).mono ?_; rintro e w4 ⟨A4, c4, rfl, hown4, hb4⟩; have b4 : Below w.heap.size w w4 := b3.trans (hb4.mono b3.size); have hS2 : w4.cell? ⟨gg, 0, none⟩ = some (.int .i64 n) ∧ w4.cell? ⟨gg, 1, none⟩ = some (.slice A L c) ∧ w4.cell? ⟨gv, 0, none⟩ = some (.int .i64 (v : Int)) ∧ w4.cell? ⟨gh, 0, none⟩ = some (.int .i64 m) ∧ w4.cell? ⟨gh, 1, none⟩ = some (.slice B M d) ∧ w4.cell? ⟨gx, 0, none⟩ = some (.int .i64 (x : Int)) := ⟨((bcell b4).1 _ _ zg).trans k0, ((bcell b4).1 _ _ zg).trans k1, ((bcell b4).1 _ _ zv).trans k2, ((bcell b4).1 _ _ zh).trans k3, ((bcell b4).1 _ _ zh).trans k4, ((bcell b4).1 _ _ zx).trans k5⟩
  refine hK.out _ _ ?s13 (fun hHeld13 => ?_)
  case s13 => ((try dsimp only); (first | exact hS2 | assumption | (first | go_keep | (obtain ⟨hq, _⟩ := bcell ‹Below _ _ _›; (repeat' apply And.intro) <;> (rw [hq _ _ (by first | assumption | omega | (simp; done) | (simp; omega) | (simp; assumption))] <;> (first | assumption | (simp [*]; done)))))))
  clear hK K hHeld
  have hHeld := hHeld13; clear hHeld13
  try simp only [Act.put, List.setIfInBounds_toArray, List.set_cons_zero, List.set_cons_succ]
  refine wpAnyH_take_d (i := 13) (d := some 5) (v := ?v14) rfl rfl (by kernel_rfl) (by kernel_rfl) (by kernel_rfl) (fun _ _ _ h => h) (Or.inl ⟨by kernel_rfl, ?y14⟩) (by assumption) ?_
  case y14 => (intro w' hSw; (try dsimp only at hSw); go_simp; try with_reducible rfl)
  try simp only [Act.put, List.setIfInBounds_toArray, List.set_cons_zero, List.set_cons_succ]
  refine wpAnyH_done (by kernel_rfl) ?_ _
  refine NoPanic.normal ?_
  have Hb4 := Lib.hid b4
  have HE4 : Hid (w4.ownsRow w.heap.size 45 2 (.slice A4 ((woL (2 ^ v) 0 es).length + (woL (2 ^ x) (n - 1) hs).length) c4) (starL n es v hs x 0).length (cE (starL n es v hs x 0))) := by
    show World.ownsRow _ _ _ _ _ _ _
    rw [starL_zero, Hbl.out]
    exact own_mono hown4 (by have := b3.size; simpa using this)
  have HT : Hid ((woL (2 ^ v) 0 es).length + (woL (2 ^ x) (n - 1) hs).length = (starL n es v hs x 0).length) := by show _ = _; rw [starL_zero, Hbl.out]
  clear hHeld hS2 hb1 hb2 hb4 z1 z2 b2 b3 b4 hF1 hF2 hown4 w1' cw1 cw2 cc k0 k1 k2 k3 k4 k5
  have k3 := (Kh.out.below Hb4.out zh).cellAt 0 _ rfl
  have k4 := (Kh.out.below Hb4.out zh).cellAt 1 _ rfl
  have k5 := (Kx.out.below Hb4.out zx).cellAt 0 _ rfl
  have s4 := Hb4.out.size
  go_wp2_with fail
  refine (ce2.out w4 Hb4.out).mono ?_
  rintro e w5 ⟨A5, c5, rfl, hown5, hb5⟩
  obtain ⟨g5, c5', hv5, hg5, hg5'⟩ := own_someI hown5 (by omega)
  injection hv5 with hv5 _ hv6
  subst hv5; subst hv6
  have Hb5 : Hid (Below w.heap.size w w5) := Hb4.out.trans (hb5.mono s4)
  have HI5 := Lib.hid hown5
  have HE5 := Lib.hid (own_below HE4.out hb5)
  have s5 := hb5.size
  clear k3 k4 k5 hown5 hb5 HE4
  have k0 := (Kg.out.below Hb5.out zg).cellAt 0 _ rfl
  have k1 := (Kg.out.below Hb5.out zg).cellAt 1 _ rfl
  have k2 := (Kv.out.below Hb5.out zv).cellAt 0 _ rfl
  go_wp2_with fail
  refine (ce1.out w5 Hb5.out).mono ?_
  rintro e w6 ⟨A6, c6, rfl, hown6, hb6⟩
  obtain ⟨g6, c6', hv5, hg6, hg6'⟩ := own_someI hown6 (by omega)
  injection hv5 with hv5 _ hv6
  subst hv5; subst hv6
  have Hb6 : Hid (Below w.heap.size w w6) := Hb5.out.trans (hb6.mono Hb5.out.size)
  have HI6 : Hid (w6.ownsRow w.heap.size 2 1 (.slice (some ⟨g5, 0, none⟩) 3 c5) 3 (cI (endsL hs x))) := own_mono (own_below HI5.out hb6) s4
  have HJ6 : Hid (w6.ownsRow w.heap.size 2 1 (.slice (some ⟨g6, 0, none⟩) 3 c6) 3 (cI (endsL es v))) := own_mono hown6 Hb5.out.size
  have HE6 := Lib.hid (own_below HE5.out hb6)
  clear k0 k1 k2 hown6 hb6 HE5 HI5
  rw [HT.out] at HE6
  simp only [HT.out]
  go_wp2_with fail
  go_loopw [5, 29] (fun s i wr => ∃ k : Nat, k ≤ 3 ∧ i = .int .i64 k ∧ Hid (wr.ownsRow w.heap.size 45 2 s (starL n es v hs x k).length (cE (starL n es v hs x k))) ∧ Hid (wr.ownsRow w.heap.size 2 1 (.slice (some ⟨g5, 0, none⟩) 3 c5) 3 (cI (endsL hs x))) ∧ Hid (wr.ownsRow w.heap.size 2 1 (.slice (some ⟨g6, 0, none⟩) 3 c6) 3 (cI (endsL es v))) ∧ Hid (Below w.heap.size w wr)) (fun _ i _ => 3 - (intOf i).toNat)
  case atStart => exact ⟨0, by omega, rfl, HE6, HI6, HJ6, Hb6⟩
  case round =>
    clear HE6 HI6 HJ6 Hb6
    obtain ⟨k, hk, rfl, HE, HI, HJ, Hbel⟩ := hrel
    obtain ⟨A7, c7, rfl⟩ := own_form HE.out
    have hsz := Hbel.out.size
    by_cases hlt : k < 3
    · have hu := Hu.out k hlt
      have hy := Hy.out k hlt
      obtain ⟨uu, Huu⟩ : ∃ a : Nat, Hid ((endsL es v).getD k 0 = a) := ⟨((endsL es v).getD k 0).toNat, by show _ = _; omega⟩
      obtain ⟨yy, Hyy⟩ : ∃ a : Nat, Hid ((endsL hs x).getD k 0 = a) := ⟨((endsL hs x).getD k 0).toNat, by show _ = _; omega⟩
      rw [Huu.out] at hu
      rw [Hyy.out] at hy
      have hvb := Hvb.out
      have huu : uu < 63 := by omega
      have hyy : yy < 63 := by omega
      have d6 := own_cellI HJ.out He1.out hlt
      have d5 := own_cellI HI.out He2.out hlt
      rw [Huu.out] at d6
      rw [Hyy.out] at d5
      have pv : (((2 ^ v : Nat)) : Int) = (2 : Int) ^ v := by rw [Int.natCast_pow]; rfl
      have px : (((2 ^ x : Nat)) : Int) = (2 : Int) ^ x := by rw [Int.natCast_pow]; rfl
      have cf1 := fun W => shifted_b uu (2 ^ v) W huu (Nat.pow_lt_pow_right (by decide) (by omega))
      have cf2 := fun W => shifted_b yy (2 ^ x) W hyy (Nat.pow_lt_pow_right (by decide) (by omega))
      obtain ⟨r1, Hr1⟩ : ∃ r : Int, Hid ((uu : Int) - (shC (2 ^ v) uu : Nat) = r) := ⟨_, rfl⟩
      obtain ⟨r2, Hr2⟩ : ∃ r : Int, Hid ((yy : Int) - (shC (2 ^ x) yy : Nat) = r) := ⟨_, rfl⟩
      rw [pv, Hr1.out] at cf1
      rw [px, Hr2.out] at cf2
      have cf1 := Lib.hid cf1
      have cf2 := Lib.hid cf2
      obtain ⟨z0, Hz0⟩ : ∃ r : Int, Hid (r2 + n = r) := ⟨_, rfl⟩
      obtain ⟨z2, Hz2⟩ : ∃ r : Int, Hid (z0 - 1 = r) := ⟨_, rfl⟩
      have hrb : 0 ≤ r2 ∧ r2 ≤ 100 := by have h2 := shC_le (2 ^ x) yy; have := Hr2.out; omega
      have V1 : Hid (IntKind.i64.wrap (r2 + n) = z0) := by show _ = _; rw [← Hz0.out]; exact IntWalk.i64_in _ (by omega)
      have V2 : Hid (IntKind.i64.wrap (z0 - 1) = z2) := by show _ = _; rw [← Hz2.out]; have := Hz0.out; exact IntWalk.i64_in _ (by omega)
      have Hs : Hid (starL n es v hs x (k + 1) = starL n es v hs x k ++ [(r1, z2)]) := by
        show _ = _
        rw [starL_succ, Huu.out, Hyy.out, Int.toNat_natCast, Int.toNat_natCast]
        have a1 : frV (2 ^ v) 0 uu = r1 := by unfold frV; have := Hr1.out; omega
        have a2 : frV (2 ^ x) (n - 1) yy = z2 := by unfold frV; have := Hr2.out; have := Hz0.out; have := Hz2.out; omega
        rw [a1, a2]
      have HsL : Hid ((starL n es v hs x (k + 1)).length = (starL n es v hs x k).length + 1) := by show _ = _; rw [Hs.out, List.length_append]; rfl
      have HTl : Hid ((starL n es v hs x k).length ≤ 3000) := by show _ ≤ _; rw [starL_len]; have := Hbl2.out; omega
      obtain ⟨T, HTT⟩ : ∃ T, Hid ((starL n es v hs x k).length = T) := ⟨_, rfl⟩
      rw [HTT.out] at HE HTl
      simp only [HTT.out]
      obtain ⟨ek, ek2, ek3⟩ := idxF k 3 hlt
      have k0 := (Kg.out.below Hbel.out zg).cellAt 0 _ rfl
      have k2 := (Kv.out.below Hbel.out zv).cellAt 0 _ rfl
      have k5 := (Kx.out.below Hbel.out zx).cellAt 0 _ rfl
      have hg5r : g5 < wr.heap.size := (HI.out.lt g5 rfl).2
      have hg5w : w.heap.size ≤ g5 := (own_blkI' HI.out).elim fun _ h => h.2.1
      have hB3 : Below wr.heap.size wr (wr.drew.alloc (.cells #[.int .i64 r1, .int .i64 z2] 45)) := by (repeat' (first | (with_reducible exact Below.refl _ _) | (with_reducible assumption) | (with_reducible refine Below.alloc ?_ ?_ _) | (with_reducible refine Below.drew ?_) | (with_reducible refine below_drewN ?_ _) | (with_reducible refine Below.setCell ?_ ?_ _) | (with_reducible refine Below.trans ?_ (Below.mono (by assumption) ?_)) | (first | omega | (simp only [World.size_alloc, World.size_setCell, World.size_drew]; omega) | (simp; omega) | (simp; done))))
      have hown2 := own_below HE.out hB3
      have hnew : RdE (wr.drew.alloc (.cells #[.int .i64 r1, .int .i64 z2] 45)) (some ⟨wr.heap.size, 0, none⟩) [(r1, z2)] := blkE_rd (t := 45) (es := [(r1, z2)]) (Blk.new' (n := wr.heap.size) _ (by simp))
      have hb9 : Below w.heap.size w (wr.drew.alloc (.cells #[.int .i64 r1, .int .i64 z2] 45)) := Hbel.out.trans (hB3.mono hsz)
      have v63 : v < 64 := by omega
      have x63 : x < 64 := by omega
      clear hu hy hvb pv px hrb
      go_wp2
      have w1' := V1.out
      have w2' := V2.out
      refine wp_region_noPanic ?_
      refine wp_region_held_drew (S := (fun w' => w'.cell? ⟨gg, 0, none⟩ = some (.int .i64 n) ∧ w'.cell? ⟨gv, 0, none⟩ = some (.int .i64 (v : Int)) ∧ w'.cell? ⟨gx, 0, none⟩ = some (.int .i64 (x : Int)) ∧ w'.cell? ⟨g5, k, none⟩ = some (.int .i64 (yy : Int)))) (by kernel_rfl) ?_ (fun hHeld => ?_)
      · (try dsimp only); (first | exact hS3 | exact hS2 | assumption | (first | go_keep | (obtain ⟨hq, _⟩ := bcell ‹Below _ _ _›; (repeat' apply And.intro) <;> (rw [hq _ _ (by first | assumption | omega | (simp; done) | (simp; omega) | (simp; assumption))] <;> (first | assumption | (simp [*]; done))))))
      refine wpAnyH_take_d (i := 0) (d := some 34) (v := ?v15) rfl rfl (by kernel_rfl) (by kernel_rfl) (by kernel_rfl) (fun _ _ _ h => h) (Or.inl ⟨by kernel_rfl, ?y15⟩) (by assumption) ?_
      case y15 => (intro w' hSw; (try dsimp only at hSw); go_simp; try with_reducible rfl)
      try simp only [Act.put, List.setIfInBounds_toArray, List.set_cons_zero, List.set_cons_succ]
      refine wpAnyH_take_d (i := 1) (d := some 35) (v := ?v16) rfl rfl (by kernel_rfl) (by kernel_rfl) (by kernel_rfl) (fun _ _ _ h => h) (Or.inl ⟨by kernel_rfl, ?y16⟩) (by assumption) ?_
      case y16 => (intro w' hSw; (try dsimp only at hSw); go_simp; try with_reducible rfl)
      try simp only [Act.put, List.setIfInBounds_toArray, List.set_cons_zero, List.set_cons_succ]
      refine wpAnyH_take_d (i := 2) (d := some 36) (v := ?v17) rfl rfl (by kernel_rfl) (by kernel_rfl) (by kernel_rfl) (fun _ _ _ h => h) (Or.inl ⟨by kernel_rfl, ?y17⟩) (by assumption) ?_
      case y17 => (intro w' hSw; (try dsimp only at hSw); go_simp; try with_reducible rfl)
      try simp only [Act.put, List.setIfInBounds_toArray, List.set_cons_zero, List.set_cons_succ]
      refine wpAnyH_take_d (i := 3) (d := some 37) (v := ?v18) rfl rfl (by kernel_rfl) (by kernel_rfl) (by kernel_rfl) (fun _ _ _ h => h) (Or.inl ⟨by kernel_rfl, ?y18⟩) (by assumption) ?_
      case y18 => (intro w' hSw; (try dsimp only at hSw); go_simp; try with_reducible rfl)
      try simp only [Act.put, List.setIfInBounds_toArray, List.set_cons_zero, List.set_cons_succ]
      refine wpAnyH_take_d (i := 5) (d := some 39) (v := ?v19) rfl rfl (by kernel_rfl) (by kernel_rfl) (by kernel_rfl) (fun _ _ _ h => h) (Or.inl ⟨by kernel_rfl, ?y19⟩) (by assumption) ?_
      case y19 => (intro w' hSw; (try dsimp only at hSw); go_simp; try with_reducible rfl)
      try simp only [Act.put, List.setIfInBounds_toArray, List.set_cons_zero, List.set_cons_succ]
      refine wpAnyH_take_d (i := 6) (d := some 40) (v := ?v20) rfl rfl (by kernel_rfl) (by kernel_rfl) (by kernel_rfl) (fun _ _ _ h => h) (Or.inl ⟨by kernel_rfl, ?y20⟩) (by assumption) ?_
      case y20 => (intro w' hSw; (try dsimp only at hSw); go_simp; try with_reducible rfl)
      try simp only [Act.put, List.setIfInBounds_toArray, List.set_cons_zero, List.set_cons_succ]
      refine wpAnyH_take_d (i := 7) (d := some 41) (v := ?v21) rfl rfl (by kernel_rfl) (by kernel_rfl) (by kernel_rfl) (fun _ _ _ h => h) (Or.inl ⟨by kernel_rfl, ?y21⟩) (by assumption) ?_
      case y21 => (intro w' hSw; (try dsimp only at hSw); go_simp; try with_reducible rfl)
      try simp only [Act.put, List.setIfInBounds_toArray, List.set_cons_zero, List.set_cons_succ]
      refine wpAnyH_take_d (i := 8) (d := some 42) (v := ?v22) rfl rfl (by kernel_rfl) (by kernel_rfl) (by kernel_rfl) (fun _ _ _ h => h) (Or.inl ⟨by kernel_rfl, ?y22⟩) (by assumption) ?_
      case y22 => (intro w' hSw; (try dsimp only at hSw); go_simp; try with_reducible rfl)
      try simp only [Act.put, List.setIfInBounds_toArray, List.set_cons_zero, List.set_cons_succ]
      refine wpAnyH_take_d (i := 9) (d := some 43) (v := ?v23) rfl rfl (by kernel_rfl) (by kernel_rfl) (by kernel_rfl) (fun _ _ _ h => h) (Or.inl ⟨by kernel_rfl, ?y23⟩) (by assumption) ?_
      case y23 => (intro w' hSw; (try dsimp only at hSw); go_simp; try with_reducible rfl)
      try simp only [Act.put, List.setIfInBounds_toArray, List.set_cons_zero, List.set_cons_succ]
      refine wpAnyH_take_d (i := 10) (d := some 44) (v := ?v24) rfl rfl (by kernel_rfl) (by kernel_rfl) (by kernel_rfl) (fun _ _ _ h => h) (Or.inl ⟨by kernel_rfl, ?y24⟩) (by assumption) ?_
      case y24 => (intro w' hSw; (try dsimp only at hSw); go_simp; try with_reducible rfl)
      try simp only [Act.put, List.setIfInBounds_toArray, List.set_cons_zero, List.set_cons_succ]
      refine wpAnyH_take_d (i := 12) (d := some 46) (v := ?v25) rfl rfl (by kernel_rfl) (by kernel_rfl) (by kernel_rfl) (fun _ _ _ h => h) (Or.inl ⟨by kernel_rfl, ?y25⟩) (by assumption) ?_
      case y25 => (intro w' hSw; (try dsimp only at hSw); go_simp; try with_reducible rfl)
      try simp only [Act.put, List.setIfInBounds_toArray, List.set_cons_zero, List.set_cons_succ]
      refine wpAnyH_take_d (i := 13) (d := some 47) (v := ?v26) rfl rfl (by kernel_rfl) (by kernel_rfl) (by kernel_rfl) (fun _ _ _ h => h) (Or.inl ⟨by kernel_rfl, ?y26⟩) (by assumption) ?_
      case y26 => (intro w' hSw; (try dsimp only at hSw); go_simp; try with_reducible rfl)
      try simp only [Act.put, List.setIfInBounds_toArray, List.set_cons_zero, List.set_cons_succ]
      refine wpAnyH_ready (rs := [4]) (by kernel_rfl) (by simp) ?_
      refine AllReadyH.cons rfl (fun K hK => ?_) AllReadyH.nil
      go_simp
      refine (cf1.out _).mono ?_; rintro e w9 ⟨rfl, rfl⟩
      refine hK.out _ _ ?s27 (fun hHeld27 => ?_)
      case s27 => ((try dsimp only); (first | exact hS3 | exact hS2 | assumption | (first | go_keep | (obtain ⟨hq, _⟩ := bcell ‹Below _ _ _›; (repeat' apply And.intro) <;> (rw [hq _ _ (by first | assumption | omega | (simp; done) | (simp; omega) | (simp; assumption))] <;> (first | assumption | (simp [*]; done)))))))
      clear hK K hHeld
      have hHeld := hHeld27; clear hHeld27
      try simp only [Act.put, List.setIfInBounds_toArray, List.set_cons_zero, List.set_cons_succ]
      refine wpAnyH_ready (rs := [11]) (by kernel_rfl) (by simp) ?_
      refine AllReadyH.cons rfl (fun K hK => ?_) AllReadyH.nil
      go_simp
      refine (cf2.out _).mono ?_; rintro e w9 ⟨rfl, rfl⟩
      refine hK.out _ _ ?s28 (fun hHeld28 => ?_)
      case s28 => ((try dsimp only); (first | exact hS3 | exact hS2 | assumption | (first | go_keep | (obtain ⟨hq, _⟩ := bcell ‹Below _ _ _›; (repeat' apply And.intro) <;> (rw [hq _ _ (by first | assumption | omega | (simp; done) | (simp; omega) | (simp; assumption))] <;> (first | assumption | (simp [*]; done)))))))
      clear hK K hHeld
      have hHeld := hHeld28; clear hHeld28
      try simp only [Act.put, List.setIfInBounds_toArray, List.set_cons_zero, List.set_cons_succ]
      refine wpAnyH_take_d (i := 14) (d := some 48) (v := ?v29) rfl rfl (by kernel_rfl) (by kernel_rfl) (by kernel_rfl) (fun _ _ _ h => h) (Or.inl ⟨by kernel_rfl, ?y29⟩) (by assumption) ?_
      case y29 => (intro w' hSw; (try dsimp only at hSw); go_simp; try with_reducible rfl)
      try simp only [Act.put, List.setIfInBounds_toArray, List.set_cons_zero, List.set_cons_succ]
      refine wpAnyH_take_d (i := 15) (d := some 49) (v := ?v30) rfl rfl (by kernel_rfl) (by kernel_rfl) (by kernel_rfl) (fun _ _ _ h => h) (Or.inl ⟨by kernel_rfl, ?y30⟩) (by assumption) ?_
      case y30 => (intro w' hSw; (try dsimp only at hSw); go_simp; try with_reducible rfl)
      try simp only [Act.put, List.setIfInBounds_toArray, List.set_cons_zero, List.set_cons_succ]
      refine wpAnyH_take_d (i := 16) (d := some 50) (v := ?v31) rfl rfl (by kernel_rfl) (by kernel_rfl) (by kernel_rfl) (fun _ _ _ h => h) (Or.inl ⟨by kernel_rfl, ?y31⟩) (by assumption) ?_
      case y31 => (intro w' hSw; (try dsimp only at hSw); go_simp; try with_reducible rfl)
      try simp only [Act.put, List.setIfInBounds_toArray, List.set_cons_zero, List.set_cons_succ]
      have hS2 : (wr.drew.alloc (.cells #[.int .i64 r1, .int .i64 z2] 45)).cell? ⟨gg, 0, none⟩ = some (.int .i64 n) ∧ (wr.drew.alloc (.cells #[.int .i64 r1, .int .i64 z2] 45)).cell? ⟨gv, 0, none⟩ = some (.int .i64 (v : Int)) ∧ (wr.drew.alloc (.cells #[.int .i64 r1, .int .i64 z2] 45)).cell? ⟨gx, 0, none⟩ = some (.int .i64 (x : Int)) ∧ (wr.drew.alloc (.cells #[.int .i64 r1, .int .i64 z2] 45)).cell? ⟨g5, k, none⟩ = some (.int .i64 (yy : Int)) := ⟨((bcell hB3).1 _ _ (by omega)).trans k0, ((bcell hB3).1 _ _ (by omega)).trans k2, ((bcell hB3).1 _ _ (by omega)).trans k5, ((bcell hB3).1 _ _ hg5r).trans d5⟩
      refine wpAnyH_ready (rs := [17]) (by kernel_rfl) (by simp) ?_
      refine AllReadyH.cons rfl (fun K hK => ?_) AllReadyH.nil
      go_simp
      refine hK.out _ _ ?s32 (fun hHeld32 => ?_)
      case s32 => ((try dsimp only); (first | exact hS3 | exact hS2 | assumption | (first | go_keep | (obtain ⟨hq, _⟩ := bcell ‹Below _ _ _›; (repeat' apply And.intro) <;> (rw [hq _ _ (by first | assumption | omega | (simp; done) | (simp; omega) | (simp; assumption))] <;> (first | assumption | (simp [*]; done)))))))
      clear hK K hHeld
      have hHeld := hHeld32; clear hHeld32
      try simp only [Act.put, List.setIfInBounds_toArray, List.set_cons_zero, List.set_cons_succ]
      refine wpAnyH_ready (rs := [18]) (by kernel_rfl) (by simp) ?_
      refine AllReadyH.cons rfl (fun K hK => ?_) AllReadyH.nil
      refine wp_appendE rfl w.heap.size _ T (starL n es v hs x k) rfl hown2 wr.heap.size 0 1 1 [(r1, z2)] rfl rfl hnew (by have := HTl.out; omega) (by omega) (by simp; omega) ?_
      intro v' w3 hown3 hfr hgr
      have b31 := hfr w.heap.size w (Nat.le_refl _) hb9
      have HI3 := own_same (own_below HI.out hB3) fun t cs ht hB => hB.grown' hown2 hgr (by rw [ht]; decide)
      have HJ3 := own_same (own_below HJ.out hB3) fun t cs ht hB => hB.grown' hown2 hgr (by rw [ht]; decide)
      have hS3 : w3.cell? ⟨gg, 0, none⟩ = some (.int .i64 n) ∧ w3.cell? ⟨gv, 0, none⟩ = some (.int .i64 (v : Int)) ∧ w3.cell? ⟨gx, 0, none⟩ = some (.int .i64 (x : Int)) ∧ w3.cell? ⟨g5, k, none⟩ = some (.int .i64 (yy : Int)) := ⟨(Kg.out.below b31 zg).cellAt 0 _ rfl, (Kv.out.below b31 zv).cellAt 0 _ rfl, (Kx.out.below b31 zx).cellAt 0 _ rfl, by have h := own_cellI HI3 He2.out hlt; rw [Hyy.out] at h; exact h⟩
      refine hK.out _ _ ?s33 (fun hHeld33 => ?_)
      case s33 => ((try dsimp only); (first | exact hS3 | exact hS2 | assumption | (first | go_keep | (obtain ⟨hq, _⟩ := bcell ‹Below _ _ _›; (repeat' apply And.intro) <;> (rw [hq _ _ (by first | assumption | omega | (simp; done) | (simp; omega) | (simp; assumption))] <;> (first | assumption | (simp [*]; done)))))))
      clear hK K hHeld
      have hHeld := hHeld33; clear hHeld33
      try simp only [Act.put, List.setIfInBounds_toArray, List.set_cons_zero, List.set_cons_succ]
      refine wpAnyH_take_d (i := 19) (d := some 5) (v := ?v34) rfl rfl (by kernel_rfl) (by kernel_rfl) (by kernel_rfl) (fun _ _ _ h => h) (Or.inl ⟨by kernel_rfl, ?y34⟩) (by assumption) ?_
      case y34 => (intro w' hSw; (try dsimp only at hSw); go_simp; try with_reducible rfl)
      try simp only [Act.put, List.setIfInBounds_toArray, List.set_cons_zero, List.set_cons_succ]
      refine wpAnyH_done (by kernel_rfl) ?_ _
      refine NoPanic.normal ?_
      have Hb3 := Lib.hid b31
      have HI9 := Lib.hid HI3
      have HJ9 := Lib.hid HJ3
      obtain ⟨g9, c9, rfl, _, _⟩ := own_someI hown3 (by omega)
      have HE9 : Hid (w3.ownsRow w.heap.size 45 2 (.slice (some ⟨g9, 0, none⟩) (T + 1) c9) (starL n es v hs x (k + 1)).length (cE (starL n es v hs x (k + 1)))) := by
        show World.ownsRow _ _ _ _ _ _ _
        rw [HsL.out, HTT.out, Hs.out]
        exact hown3
      clear hHeld hS3 hS2 b31 HI3 HJ3 hown3 hfr hgr w1' w2' hown2 hnew hB3 hb9 HE HI HJ Hbel k0 k2 k5 d5 d6
      go_wp2
      exact ⟨⟨k + 1, by omega, by go_num, HE9, HI9, HJ9, Hb3⟩, by simp [intOf]; omega⟩
    · obtain rfl : k = 3 := by omega
      go_wp2
      go_ret
      exact ⟨A7, c7, rfl, own_rdE HE.out, Hbel.out⟩
end Go.Proofs.Ytjgmoffkecnmcaa
