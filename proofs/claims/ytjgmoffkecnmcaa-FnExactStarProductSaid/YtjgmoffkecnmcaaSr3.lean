/- impl.StarProduct. No statement of the program is proved here. -/
import Derived.Test.YtjgmoffkecnmcaaSr2
import Derived.Test.YtjgmoffkecnmcaaLe2
import Derived.Test.YtjgmoffkecnmcaaBr2
namespace Go.Proofs.Ytjgmoffkecnmcaa
open Go.RowKit
set_option linter.unusedSimpArgs false
set_option linter.unusedVariables false
set_option maxRecDepth 20000

set_option maxHeartbeats 8000000 in
/-- The errors. -/
theorem implStar_err (n : Int) (A : Option Addr) (c : Nat) (es : List (Int × Int)) (v m : Int) (B : Option Addr) (d : Nat) (hs : List (Int × Int)) (x : Int) (w : World) (hl : es.length ≤ 1048576) (hl2 : hs.length ≤ 1048576) (hr : RdE w A es) (hr2 : RdE w B hs) (q1 q2 q3 q4 : Bool) (h1 : Hid (isGraphB n es = q1)) (h2 : Hid (isGraphB m hs = q2)) (h3 : Hid (inB v 0 (wrap64 (n - 1)) = q3)) (h4 : Hid (inB x 0 (wrap64 (m - 1)) = q4)) (r : Int)
    (h : (bcode q1 q2 (q3 && q4) = r ∧ r ≠ 0) ∨ (bcode q1 q2 (q3 && q4) = 0 ∧ n = 2 ∧ r = 5) ∨ (bcode q1 q2 (q3 && q4) = 0 ∧ n ≠ 2 ∧ m = 2 ∧ r = 5)) :
    Calls Try.prog 8 #[.agg #[.int .i64 n, .slice A es.length c], .int .i64 v, .agg #[.int .i64 m, .slice B hs.length d], .int .i64 x] w fun e w' => RetG w' w.heap.size e 0 [] r ∧ Below w.heap.size w w' := by
  have hmf : ∀ (fn : Fn) (first cap : Array Value) (w : World), (Instr.makeFunc fn first cap).run Try.prog w = .ok (.func fn first cap) w := fun _ _ _ _ => rfl
  have cb := fun W lb (hW : Below w.heap.size w W) hp => bothCode_b n A c es m B d hs 22 lb W q1 q2 (q3 && q4) ent_star1 h1 h2 hl hl2 (hr.below hW) (hr2.below hW) hp
  have c1 := Lib.hid fun gg gv gh gx W k1 k2 k3 k4 => star1_b gg gv gh gx n A es.length c v m B hs.length d x W q3 q4 h3 h4 k1 k2 k3 k4
  clear hr hr2 h1 h2 h3 h4
  generalize es.length = L at *
  generalize hs.length = M at *
  rcases h with ⟨hc, hv0⟩ | ⟨hc, hn, rfl⟩ | ⟨hc, hn, hm, rfl⟩
  · have g1 : (r != 0) = true := by simpa using hv0
    rw [hc] at cb
    have cb := Lib.hid cb
    clear hc hv0 hl hl2
    go_enter Try.func8, Try.ntmps8
    go_wp2_with fail
    refine (cb.out (((((w.alloc (.cells #[.int .i64 n, .slice A L c] 28)).alloc (.cells #[.int .i64 v] 2)).alloc (.cells #[.int .i64 m, .slice B M d] 28)).alloc (.cells #[.int .i64 x] 2)).alloc (.cells #[.int .i64 0, .slice none 0 0] 28)) _ (by (repeat' (first | (with_reducible exact Below.refl _ _) | (with_reducible assumption) | (with_reducible refine Below.alloc ?_ ?_ _) | (with_reducible refine Below.drew ?_) | (with_reducible refine below_drewN ?_ _) | (with_reducible refine Below.setCell ?_ ?_ _) | (with_reducible refine Below.trans ?_ (Below.mono (by assumption) ?_)) | (first | omega | (simp only [World.size_alloc, World.size_setCell, World.size_drew]; omega) | (simp; omega) | (simp; done))))) ?_).mono ?_
    · intro _ _ W hW
      exact c1.out w.heap.size (w.heap.size + 1) (w.heap.size + 1 + 1) (w.heap.size + 1 + 1 + 1) W ((((((Blk.new w _ _).alloc _).alloc _).alloc _).alloc _).below hW (by simp <;> omega)) (((((Blk.new' (n := w.heap.size + 1) _ (by simp)).alloc _).alloc _).alloc _).below hW (by simp <;> omega)) ((((Blk.new' (n := w.heap.size + 1 + 1) _ (by simp)).alloc _).alloc _).below hW (by simp)) (((Blk.new' (n := w.heap.size + 1 + 1 + 1) _ (by simp)).alloc _).below hW (by simp))
    rintro e w1 ⟨rfl, hb1⟩
    have HZ := Lib.hid ((Blk.new' (n := w.heap.size + 1 + 1 + 1 + 1) _ (by simp)).below hb1 (by simp) : Blk w1 (w.heap.size + 1 + 1 + 1 + 1) 28 #[.int .i64 0, .slice none 0 0])
    have HG := Lib.hid (((((((Blk.new w _ _).alloc _).alloc _).alloc _).alloc _).below hb1 (by simp <;> omega)) : Blk w1 w.heap.size 28 #[.int .i64 n, .slice A L c])
    have HV := Lib.hid ((((((Blk.new' (n := w.heap.size + 1) _ (by simp)).alloc _).alloc _).alloc _).below hb1 (by simp <;> omega)) : Blk w1 (w.heap.size + 1) 2 #[.int .i64 v])
    have HH := Lib.hid (((((Blk.new' (n := w.heap.size + 1 + 1) _ (by simp)).alloc _).alloc _).below hb1 (by simp)) : Blk w1 (w.heap.size + 1 + 1) 28 #[.int .i64 m, .slice B M d])
    have HX := Lib.hid ((((Blk.new' (n := w.heap.size + 1 + 1 + 1) _ (by simp)).alloc _).below hb1 (by simp)) : Blk w1 (w.heap.size + 1 + 1 + 1) 2 #[.int .i64 x])
    have Hb1 : Hid (Below w.heap.size w w1) := by show Below _ _ _; exact Below.trans (b := (((((w.alloc (.cells #[.int .i64 n, .slice A L c] 28)).alloc (.cells #[.int .i64 v] 2)).alloc (.cells #[.int .i64 m, .slice B M d] 28)).alloc (.cells #[.int .i64 x] 2)).alloc (.cells #[.int .i64 0, .slice none 0 0] 28))) (by (repeat' (first | (with_reducible exact Below.refl _ _) | (with_reducible assumption) | (with_reducible refine Below.alloc ?_ ?_ _) | (with_reducible refine Below.drew ?_) | (with_reducible refine below_drewN ?_ _) | (with_reducible refine Below.setCell ?_ ?_ _) | (with_reducible refine Below.trans ?_ (Below.mono (by assumption) ?_)) | (first | omega | (simp only [World.size_alloc, World.size_setCell, World.size_drew]; omega) | (simp; omega) | (simp; done))))) (hb1.mono (by simp <;> omega))
    have zz := HZ.out.lt
    clear hb1
    have x0 := HZ.out.cellAt 0 _ rfl
    have x1 : (w1.setCell ⟨w.heap.size + 1 + 1 + 1 + 1, 0, none⟩ (.int .i64 0)).cell? ⟨w.heap.size + 1 + 1 + 1 + 1, 1, none⟩ = some (.slice none 0 0) := (sc_other (by simp)).trans (HZ.out.cellAt 1 _ rfl)
    have f0 := HZ.out.frozen 0
    have f1 := HZ.out.frozen 1
    have k0 := HG.out.cellAt 0 _ rfl
    have k1 := HH.out.cellAt 0 _ rfl
    go_wp2
    refine ret_cell_tmp Try.results8 Try.underlying28 rfl (by kernel_rfl) rfl ((HZ.out.set_ 0 (.int .i64 0)).set_ 1 (.slice none 0 0)) rfl rfl ⟨⟨none, 0, rfl, FrE.nil⟩, (Hb1.out.setCell (by show w.heap.size ≤ w.heap.size + 1 + 1 + 1 + 1; omega) _).setCell (by show w.heap.size ≤ w.heap.size + 1 + 1 + 1 + 1; omega) _⟩
  · have g1 : (n == 2) = true := by simpa using hn
    rw [hc] at cb
    have cb := Lib.hid cb
    clear hc hn hl hl2
    go_enter Try.func8, Try.ntmps8
    go_wp2_with fail
    refine (cb.out (((((w.alloc (.cells #[.int .i64 n, .slice A L c] 28)).alloc (.cells #[.int .i64 v] 2)).alloc (.cells #[.int .i64 m, .slice B M d] 28)).alloc (.cells #[.int .i64 x] 2)).alloc (.cells #[.int .i64 0, .slice none 0 0] 28)) _ (by (repeat' (first | (with_reducible exact Below.refl _ _) | (with_reducible assumption) | (with_reducible refine Below.alloc ?_ ?_ _) | (with_reducible refine Below.drew ?_) | (with_reducible refine below_drewN ?_ _) | (with_reducible refine Below.setCell ?_ ?_ _) | (with_reducible refine Below.trans ?_ (Below.mono (by assumption) ?_)) | (first | omega | (simp only [World.size_alloc, World.size_setCell, World.size_drew]; omega) | (simp; omega) | (simp; done))))) ?_).mono ?_
    · intro _ _ W hW
      exact c1.out w.heap.size (w.heap.size + 1) (w.heap.size + 1 + 1) (w.heap.size + 1 + 1 + 1) W ((((((Blk.new w _ _).alloc _).alloc _).alloc _).alloc _).below hW (by simp <;> omega)) (((((Blk.new' (n := w.heap.size + 1) _ (by simp)).alloc _).alloc _).alloc _).below hW (by simp <;> omega)) ((((Blk.new' (n := w.heap.size + 1 + 1) _ (by simp)).alloc _).alloc _).below hW (by simp)) (((Blk.new' (n := w.heap.size + 1 + 1 + 1) _ (by simp)).alloc _).below hW (by simp))
    rintro e w1 ⟨rfl, hb1⟩
    have HZ := Lib.hid ((Blk.new' (n := w.heap.size + 1 + 1 + 1 + 1) _ (by simp)).below hb1 (by simp) : Blk w1 (w.heap.size + 1 + 1 + 1 + 1) 28 #[.int .i64 0, .slice none 0 0])
    have HG := Lib.hid (((((((Blk.new w _ _).alloc _).alloc _).alloc _).alloc _).below hb1 (by simp <;> omega)) : Blk w1 w.heap.size 28 #[.int .i64 n, .slice A L c])
    have HV := Lib.hid ((((((Blk.new' (n := w.heap.size + 1) _ (by simp)).alloc _).alloc _).alloc _).below hb1 (by simp <;> omega)) : Blk w1 (w.heap.size + 1) 2 #[.int .i64 v])
    have HH := Lib.hid (((((Blk.new' (n := w.heap.size + 1 + 1) _ (by simp)).alloc _).alloc _).below hb1 (by simp)) : Blk w1 (w.heap.size + 1 + 1) 28 #[.int .i64 m, .slice B M d])
    have HX := Lib.hid ((((Blk.new' (n := w.heap.size + 1 + 1 + 1) _ (by simp)).alloc _).below hb1 (by simp)) : Blk w1 (w.heap.size + 1 + 1 + 1) 2 #[.int .i64 x])
    have Hb1 : Hid (Below w.heap.size w w1) := by show Below _ _ _; exact Below.trans (b := (((((w.alloc (.cells #[.int .i64 n, .slice A L c] 28)).alloc (.cells #[.int .i64 v] 2)).alloc (.cells #[.int .i64 m, .slice B M d] 28)).alloc (.cells #[.int .i64 x] 2)).alloc (.cells #[.int .i64 0, .slice none 0 0] 28))) (by (repeat' (first | (with_reducible exact Below.refl _ _) | (with_reducible assumption) | (with_reducible refine Below.alloc ?_ ?_ _) | (with_reducible refine Below.drew ?_) | (with_reducible refine below_drewN ?_ _) | (with_reducible refine Below.setCell ?_ ?_ _) | (with_reducible refine Below.trans ?_ (Below.mono (by assumption) ?_)) | (first | omega | (simp only [World.size_alloc, World.size_setCell, World.size_drew]; omega) | (simp; omega) | (simp; done))))) (hb1.mono (by simp <;> omega))
    have zz := HZ.out.lt
    clear hb1
    have x0 := HZ.out.cellAt 0 _ rfl
    have x1 : (w1.setCell ⟨w.heap.size + 1 + 1 + 1 + 1, 0, none⟩ (.int .i64 0)).cell? ⟨w.heap.size + 1 + 1 + 1 + 1, 1, none⟩ = some (.slice none 0 0) := (sc_other (by simp)).trans (HZ.out.cellAt 1 _ rfl)
    have f0 := HZ.out.frozen 0
    have f1 := HZ.out.frozen 1
    have k0 := HG.out.cellAt 0 _ rfl
    have k1 := HH.out.cellAt 0 _ rfl
    go_wp2
    refine ret_cell_tmp Try.results8 Try.underlying28 rfl (by kernel_rfl) rfl ((HZ.out.set_ 0 (.int .i64 0)).set_ 1 (.slice none 0 0)) rfl rfl ⟨⟨none, 0, rfl, FrE.nil⟩, (Hb1.out.setCell (by show w.heap.size ≤ w.heap.size + 1 + 1 + 1 + 1; omega) _).setCell (by show w.heap.size ≤ w.heap.size + 1 + 1 + 1 + 1; omega) _⟩
  · have g1 : (n == 2) = false := by simpa using hn
    have g2 : (m == 2) = true := by simpa using hm
    rw [hc] at cb
    have cb := Lib.hid cb
    clear hc hn hm hl hl2
    go_enter Try.func8, Try.ntmps8
    go_wp2_with fail
    refine (cb.out (((((w.alloc (.cells #[.int .i64 n, .slice A L c] 28)).alloc (.cells #[.int .i64 v] 2)).alloc (.cells #[.int .i64 m, .slice B M d] 28)).alloc (.cells #[.int .i64 x] 2)).alloc (.cells #[.int .i64 0, .slice none 0 0] 28)) _ (by (repeat' (first | (with_reducible exact Below.refl _ _) | (with_reducible assumption) | (with_reducible refine Below.alloc ?_ ?_ _) | (with_reducible refine Below.drew ?_) | (with_reducible refine below_drewN ?_ _) | (with_reducible refine Below.setCell ?_ ?_ _) | (with_reducible refine Below.trans ?_ (Below.mono (by assumption) ?_)) | (first | omega | (simp only [World.size_alloc, World.size_setCell, World.size_drew]; omega) | (simp; omega) | (simp; done))))) ?_).mono ?_
    · intro _ _ W hW
      exact c1.out w.heap.size (w.heap.size + 1) (w.heap.size + 1 + 1) (w.heap.size + 1 + 1 + 1) W ((((((Blk.new w _ _).alloc _).alloc _).alloc _).alloc _).below hW (by simp <;> omega)) (((((Blk.new' (n := w.heap.size + 1) _ (by simp)).alloc _).alloc _).alloc _).below hW (by simp <;> omega)) ((((Blk.new' (n := w.heap.size + 1 + 1) _ (by simp)).alloc _).alloc _).below hW (by simp)) (((Blk.new' (n := w.heap.size + 1 + 1 + 1) _ (by simp)).alloc _).below hW (by simp))
    rintro e w1 ⟨rfl, hb1⟩
    have HZ := Lib.hid ((Blk.new' (n := w.heap.size + 1 + 1 + 1 + 1) _ (by simp)).below hb1 (by simp) : Blk w1 (w.heap.size + 1 + 1 + 1 + 1) 28 #[.int .i64 0, .slice none 0 0])
    have HG := Lib.hid (((((((Blk.new w _ _).alloc _).alloc _).alloc _).alloc _).below hb1 (by simp <;> omega)) : Blk w1 w.heap.size 28 #[.int .i64 n, .slice A L c])
    have HV := Lib.hid ((((((Blk.new' (n := w.heap.size + 1) _ (by simp)).alloc _).alloc _).alloc _).below hb1 (by simp <;> omega)) : Blk w1 (w.heap.size + 1) 2 #[.int .i64 v])
    have HH := Lib.hid (((((Blk.new' (n := w.heap.size + 1 + 1) _ (by simp)).alloc _).alloc _).below hb1 (by simp)) : Blk w1 (w.heap.size + 1 + 1) 28 #[.int .i64 m, .slice B M d])
    have HX := Lib.hid ((((Blk.new' (n := w.heap.size + 1 + 1 + 1) _ (by simp)).alloc _).below hb1 (by simp)) : Blk w1 (w.heap.size + 1 + 1 + 1) 2 #[.int .i64 x])
    have Hb1 : Hid (Below w.heap.size w w1) := by show Below _ _ _; exact Below.trans (b := (((((w.alloc (.cells #[.int .i64 n, .slice A L c] 28)).alloc (.cells #[.int .i64 v] 2)).alloc (.cells #[.int .i64 m, .slice B M d] 28)).alloc (.cells #[.int .i64 x] 2)).alloc (.cells #[.int .i64 0, .slice none 0 0] 28))) (by (repeat' (first | (with_reducible exact Below.refl _ _) | (with_reducible assumption) | (with_reducible refine Below.alloc ?_ ?_ _) | (with_reducible refine Below.drew ?_) | (with_reducible refine below_drewN ?_ _) | (with_reducible refine Below.setCell ?_ ?_ _) | (with_reducible refine Below.trans ?_ (Below.mono (by assumption) ?_)) | (first | omega | (simp only [World.size_alloc, World.size_setCell, World.size_drew]; omega) | (simp; omega) | (simp; done))))) (hb1.mono (by simp <;> omega))
    have zz := HZ.out.lt
    clear hb1
    have x0 := HZ.out.cellAt 0 _ rfl
    have x1 : (w1.setCell ⟨w.heap.size + 1 + 1 + 1 + 1, 0, none⟩ (.int .i64 0)).cell? ⟨w.heap.size + 1 + 1 + 1 + 1, 1, none⟩ = some (.slice none 0 0) := (sc_other (by simp)).trans (HZ.out.cellAt 1 _ rfl)
    have f0 := HZ.out.frozen 0
    have f1 := HZ.out.frozen 1
    have k0 := HG.out.cellAt 0 _ rfl
    have k1 := HH.out.cellAt 0 _ rfl
    go_wp2
    refine ret_cell_tmp Try.results8 Try.underlying28 rfl (by kernel_rfl) rfl ((HZ.out.set_ 0 (.int .i64 0)).set_ 1 (.slice none 0 0)) rfl rfl ⟨⟨none, 0, rfl, FrE.nil⟩, (Hb1.out.setCell (by show w.heap.size ≤ w.heap.size + 1 + 1 + 1 + 1; omega) _).setCell (by show w.heap.size ≤ w.heap.size + 1 + 1 + 1 + 1; omega) _⟩

set_option maxHeartbeats 8000000 in
/-- The graph. -/
theorem implStar_yes (n : Int) (A : Option Addr) (c : Nat) (es : List (Int × Int)) (v : Nat) (m : Int) (B : Option Addr) (d : Nat) (hs : List (Int × Int)) (x : Nat) (w : World) (hl : es.length ≤ 1000) (hl2 : hs.length ≤ 1000) (hr : RdE w A es) (hr2 : RdE w B hs) (h1 : Hid (isGraphB n es = true)) (h2 : Hid (isGraphB m hs = true)) (h3 : Hid (inB (v : Int) 0 (n - 1) = true)) (h4 : Hid (inB (x : Int) 0 (m - 1) = true)) (hn2 : n ≠ 2) (hm2 : m ≠ 2)
    (N : Int) (rs : List (Int × Int)) (r : Int) (R0 : Hid ((limV (n + m - 2) (starL n es v hs x 3)).1 = N)) (R1 : Hid ((limV (n + m - 2) (starL n es v hs x 3)).2.1 = rs)) (R2 : Hid ((limV (n + m - 2) (starL n es v hs x 3)).2.2 = r)) :
    Calls Try.prog 8 #[.agg #[.int .i64 n, .slice A es.length c], .int .i64 v, .agg #[.int .i64 m, .slice B hs.length d], .int .i64 x] w fun e w' => RetG w' w.heap.size e N rs r ∧ Below w.heap.size w w' := by
  have hmf : ∀ (fn : Fn) (first cap : Array Value) (w : World), (Instr.makeFunc fn first cap).run Try.prog w = .ok (.func fn first cap) w := fun _ _ _ _ => rfl
  have hn := isGraphB_n h1.out
  have hm := isGraphB_n h2.out
  have e1 : wrap64 (n - 1) = n - 1 := wrap64_small (by omega) (by omega)
  have e2 : wrap64 (m - 1) = m - 1 := wrap64_small (by omega) (by omega)
  have cb := fun W lb (hW : Below w.heap.size w W) hp => bothCode_b n A c es m B d hs 22 lb W true true true ent_star1 h1 h2 (by omega) (by omega) (hr.below hW) (hr2.below hW) hp
  have c1 := Lib.hid fun gg gv gh gx W k1 k2 k3 k4 => star1_b gg gv gh gx n A es.length c v m B hs.length d x W true true (by show _ = _; rw [e1]; exact h3.out) (by show _ = _; rw [e2]; exact h4.out) k1 k2 k3 k4
  have hlen := starL_len n es v hs x 3
  have hlen2 := starB_len n es v hs x
  have cl := Lib.hid fun W lb hp => limited_b (n + m - 2) 25 lb (starL n es v hs x 3) W ent_star2 (by omega) (by omega) hp
  simp only [R0.out, R1.out, R2.out] at cl
  have c2 := Lib.hid fun gg gv gh gx W (hW : Below w.heap.size w W) k1 k2 k3 k4 => star2_b gg gv gh gx n A c es v m B d hs x W hl hl2 (hr.below hW) (hr2.below hW) h1 h2 h3 h4 hn2 hm2 k1 k2 k3 k4
  obtain ⟨K, HK⟩ : ∃ M, Hid (rs.length = M) := ⟨_, rfl⟩
  have g1 : (n == 2) = false := by simpa using hn2
  have g2 : (m == 2) = false := by simpa using hm2
  have p1 : wrap64 (n + m) = n + m := wrap64_small (by omega) (by omega)
  have p2 : wrap64 (n + m - 2) = n + m - 2 := wrap64_small (by omega) (by omega)
  have hc0 : bcode true true true = 0 := rfl
  rw [hc0] at cb
  have cb := Lib.hid cb
  clear hr hr2 h1 h2 h3 h4 hn2 hm2 hlen hlen2 R0 R1 R2 hc0 e1 e2 hn hm
  generalize starL n es v hs x 3 = X at *
  generalize es.length = L at *
  generalize hs.length = M at *
  go_enter Try.func8, Try.ntmps8
  go_wp2_with fail
  refine (cb.out (((((w.alloc (.cells #[.int .i64 n, .slice A L c] 28)).alloc (.cells #[.int .i64 (v : Int)] 2)).alloc (.cells #[.int .i64 m, .slice B M d] 28)).alloc (.cells #[.int .i64 (x : Int)] 2)).alloc (.cells #[.int .i64 0, .slice none 0 0] 28)) _ (by (repeat' (first | (with_reducible exact Below.refl _ _) | (with_reducible assumption) | (with_reducible refine Below.alloc ?_ ?_ _) | (with_reducible refine Below.drew ?_) | (with_reducible refine below_drewN ?_ _) | (with_reducible refine Below.setCell ?_ ?_ _) | (with_reducible refine Below.trans ?_ (Below.mono (by assumption) ?_)) | (first | omega | (simp only [World.size_alloc, World.size_setCell, World.size_drew]; omega) | (simp; omega) | (simp; done))))) ?_).mono ?_
  · intro _ _ W hW
    exact c1.out w.heap.size (w.heap.size + 1) (w.heap.size + 1 + 1) (w.heap.size + 1 + 1 + 1) W ((((((Blk.new w _ _).alloc _).alloc _).alloc _).alloc _).below hW (by simp <;> omega)) (((((Blk.new' (n := w.heap.size + 1) _ (by simp)).alloc _).alloc _).alloc _).below hW (by simp <;> omega)) ((((Blk.new' (n := w.heap.size + 1 + 1) _ (by simp)).alloc _).alloc _).below hW (by simp)) (((Blk.new' (n := w.heap.size + 1 + 1 + 1) _ (by simp)).alloc _).below hW (by simp))
  rintro e w1 ⟨rfl, hb1⟩
  have HZ := Lib.hid ((Blk.new' (n := w.heap.size + 1 + 1 + 1 + 1) _ (by simp)).below hb1 (by simp) : Blk w1 (w.heap.size + 1 + 1 + 1 + 1) 28 #[.int .i64 0, .slice none 0 0])
  have HG := Lib.hid (((((((Blk.new w _ _).alloc _).alloc _).alloc _).alloc _).below hb1 (by simp <;> omega)) : Blk w1 w.heap.size 28 #[.int .i64 n, .slice A L c])
  have HV := Lib.hid ((((((Blk.new' (n := w.heap.size + 1) _ (by simp)).alloc _).alloc _).alloc _).below hb1 (by simp <;> omega)) : Blk w1 (w.heap.size + 1) 2 #[.int .i64 (v : Int)])
  have HH := Lib.hid (((((Blk.new' (n := w.heap.size + 1 + 1) _ (by simp)).alloc _).alloc _).below hb1 (by simp)) : Blk w1 (w.heap.size + 1 + 1) 28 #[.int .i64 m, .slice B M d])
  have HX := Lib.hid ((((Blk.new' (n := w.heap.size + 1 + 1 + 1) _ (by simp)).alloc _).below hb1 (by simp)) : Blk w1 (w.heap.size + 1 + 1 + 1) 2 #[.int .i64 (x : Int)])
  have Hb1 : Hid (Below w.heap.size w w1) := by show Below _ _ _; exact Below.trans (b := (((((w.alloc (.cells #[.int .i64 n, .slice A L c] 28)).alloc (.cells #[.int .i64 (v : Int)] 2)).alloc (.cells #[.int .i64 m, .slice B M d] 28)).alloc (.cells #[.int .i64 (x : Int)] 2)).alloc (.cells #[.int .i64 0, .slice none 0 0] 28))) (by (repeat' (first | (with_reducible exact Below.refl _ _) | (with_reducible assumption) | (with_reducible refine Below.alloc ?_ ?_ _) | (with_reducible refine Below.drew ?_) | (with_reducible refine below_drewN ?_ _) | (with_reducible refine Below.setCell ?_ ?_ _) | (with_reducible refine Below.trans ?_ (Below.mono (by assumption) ?_)) | (first | omega | (simp only [World.size_alloc, World.size_setCell, World.size_drew]; omega) | (simp; omega) | (simp; done))))) (hb1.mono (by simp <;> omega))
  have zz := HZ.out.lt
  clear hb1
  have k0 := HG.out.cellAt 0 _ rfl
  have k1 := HH.out.cellAt 0 _ rfl
  clear cb c1
  go_wp2_with fail
  refine (cl.out w1 _ ?_).mono ?_
  · intro h20 W hW
    exact c2.out w.heap.size (w.heap.size + 1) (w.heap.size + 1 + 1) (w.heap.size + 1 + 1 + 1) W (Hb1.out.trans (hW.mono (by omega))) (HG.out.below hW (by omega)) (HV.out.below hW (by omega)) (HH.out.below hW (by omega)) (HX.out.below hW (by omega))
  rintro e w4 ⟨hq4, hb4⟩
  obtain ⟨A4, c4, rfl, hF⟩ := hq4.open_ HK.out
  have hZ4 := HZ.out.below hb4 zz
  have x0 := hZ4.cellAt 0 _ rfl
  have x1 : (w4.setCell ⟨w.heap.size + 1 + 1 + 1 + 1, 0, none⟩ (.int .i64 N)).cell? ⟨w.heap.size + 1 + 1 + 1 + 1, 1, none⟩ = some (.slice none 0 0) := (sc_other (by simp)).trans (hZ4.cellAt 1 _ rfl)
  have f0 := hZ4.frozen 0
  have f1 := hZ4.frozen 1
  have HZ4 := Lib.hid hZ4
  have HF := Lib.hid hF
  have Hb4 : Hid (Below w.heap.size w w4) := Hb1.out.trans (hb4.mono (by omega))
  clear hZ4 hF hb4 hq4 k0 k1 HG HV HH HX HZ
  go_wp2
  refine ret_cell_tmp Try.results8 Try.underlying28 rfl (by kernel_rfl) rfl ((HZ4.out.set_ 0 (.int .i64 N)).set_ 1 (.slice A4 K c4)) rfl rfl ⟨⟨A4, c4, ?_, FrE.mono (n0 := w1.heap.size) ?_ (by omega)⟩, (Hb4.out.setCell (by show w.heap.size ≤ w.heap.size + 1 + 1 + 1 + 1; omega) _).setCell (by show w.heap.size ≤ w.heap.size + 1 + 1 + 1 + 1; omega) _⟩
  · rw [HK.out]; rfl
  · exact HF.out.away (((Only.refl _ _).set 0 _).set 1 _ : Only (some ⟨w.heap.size + 1 + 1 + 1 + 1, 0, none⟩) w4 _) zz
end Go.Proofs.Ytjgmoffkecnmcaa
