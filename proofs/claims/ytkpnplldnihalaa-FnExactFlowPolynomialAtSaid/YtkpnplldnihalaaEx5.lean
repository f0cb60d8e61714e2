/- The program's countSets, smallCode, expandedCode; CountConnecting, CountForests. -/
import Derived.Test.YtkpnplldnihalaaEx4
import Derived.Test.YtkpnplldnihalaaCw
import Derived.Test.YtkpnplldnihalaaCi4
namespace Go.Proofs.Ytkpnplldnihalaa
open Go.RowKit
set_option linter.unusedSimpArgs false
set_option linter.unusedVariables false
set_option maxRecDepth 20000

/-- What the counting function needs and holds. -/
structure InvM (p : Nat) (lp : Array Value) (h : Nat) (W : World) (acc : Int) : Prop where
  lt : h + 2 < W.heap.size
  c1 : W.cell? ⟨h + 1, 0, none⟩ = some (.func (.func p) #[] lp)
  c2 : W.cell? ⟨h + 2, 0, none⟩ = some (.int .i64 acc)
  fz : W.frozen? ⟨h + 2, 0, none⟩ = false
theorem InvM.keep {p : Nat} {lp : Array Value} {h : Nat} {W W' : World} {acc : Int} (e : InvM p lp h W acc) (hb : Below W.heap.size W W') : InvM p lp h W' acc := by
  obtain ⟨k1, k2⟩ := bcell hb
  have := e.lt
  exact ⟨Nat.lt_of_lt_of_le e.lt hb.size, (k1 _ _ (by omega)).trans e.c1, (k1 _ _ (by omega)).trans e.c2, (k2 _ _ (by omega)).trans e.fz⟩
theorem ent_count1 : Ent 100 := enters_of Try.func100 (by kernel_rfl) rfl

set_option maxHeartbeats 1000000 in
theorem count1_b (p : Nat) (lp : Array Value) (h : Nat) (q : Int × Int → Bool) (eg0 : Ent p) (W : World) (acc k s : Int) (b : Bool) (hb : Hid (q (k, s) = b)) (hI : InvM p lp h W acc)
    (hp : Calls Try.prog p (#[.int .i64 k, .int .i64 s] ++ lp) W fun e w' => e = .returned (.bool b) ∧ Below W.heap.size W w') :
    Calls Try.prog 100 (#[.int .i64 k, .int .i64 s] ++ #[.pointer (some ⟨h + 1, 0, none⟩), .pointer (some ⟨h + 2, 0, none⟩)]) W fun e w' => e = .returned (.tuple #[]) ∧ SameBut (h + 2) W w' ∧ Below h W w' ∧ InvM p lp h w' (if q (k, s) = true then wrap64 (acc + 1) else acc) := by
  have eg := eg0
  unfold Ent at eg
  clear eg0
  rw [hb.out]
  have h1 := hI.c1
  have hlt := hI.lt
  have HI := Lib.hid hI
  clear hI
  show Calls Try.prog 100 #[.int .i64 k, .int .i64 s, .pointer (some ⟨h + 1, 0, none⟩), .pointer (some ⟨h + 2, 0, none⟩)] W _
  go_enter Try.func100, Try.ntmps100
  go_wp2_with fail
  refine hp.mono ?_
  rintro e w1 ⟨rfl, hb1⟩
  have I1 := Lib.hid (HI.out.keep hb1)
  have S1 : SameBut (h + 2) W w1 := SameBut.of_below hb1
  have B1 : Below h W w1 := hb1.mono (by omega)
  clear hp h1 hb1 HI
  cases b
  · go_wp2
    go_end0
    exact ⟨rfl, S1, B1, I1.out⟩
  · have c2 := I1.out.c2
    have fz := I1.out.fz
    go_wp2
    clear c2 fz
    go_end0
    refine ⟨rfl, S1.set 0 _, B1.setCell (by show h ≤ h + 2; omega) _, ?_⟩
    have e := I1.out
    exact ⟨by simpa [World.setCell] using e.lt, (sc_other (addr_ne (.inl (by omega)))).trans e.c1, sc_same e.c2, by rw [sc_frozen]; exact e.fz⟩

set_option maxHeartbeats 2000000 in
theorem countSets_b (N : Nat) (A : Option Addr) (c : Nat) (es : List (Int × Int)) (p : Nat) (lp : Array Value) (q : Int × Int → Bool) (w : World) (r : Int)
    (hr0 : Hid (cntL q (leafs false es es.length 0 (idx N) 0 N) 0 = r)) (hN : 1 ≤ N) (hN2 : N ≤ 100) (hl : es.length ≤ 100) (hin : Hid (InN N es)) (hr : RdE w A es) (eg : Ent p)
    (hp : Hid (∀ W k s, Below w.heap.size w W → OkL N es.length k s → Calls Try.prog p (#[.int .i64 k, .int .i64 s] ++ lp) W fun e w' => e = .returned (.bool (q (k, s))) ∧ Below W.heap.size W w')) :
    Calls Try.prog 59 #[.agg #[.int .i64 N, .slice A es.length c], .func (.func p) #[] lp] w fun e w' => e = .returned (.int .i64 r) ∧ Below w.heap.size w w' := by
  have hmf : ∀ (fn : Fn) (first cap : Array Value) (w : World), (Instr.makeFunc fn first cap).run Try.prog w = .ok (.func fn first cap) w := fun _ _ _ _ => rfl
  have ce := fun (W : World) (hW : Hid (Below w.heap.size w W)) (hg : w.heap.size + 2 < W.heap.size) (hI : Hid (InvM p lp w.heap.size W 0)) =>
    expanded_b (InvM p lp w.heap.size) (fun acc x => if q x = true then wrap64 (acc + 1) else acc) (w.heap.size + 2) N A c es 100 #[.pointer (some ⟨w.heap.size + 1, 0, none⟩), .pointer (some ⟨w.heap.size + 2, 0, none⟩)] w.heap.size w W 0
      hN hN2 hl hin (fun W hW => hr.below hW) ent_count1 (by omega) hg (fun W W' acc h1 h2 => h1.keep h2)
      (fun W acc k s hW hg hok hI => count1_b p lp w.heap.size q eg W acc k s _ rfl hI (hp.out W k s hW hok)) hI hW
  have hr1 : Hid (List.foldl (fun acc x => if q x = true then wrap64 (acc + 1) else acc) 0 (leafs false es es.length 0 (idx N) 0 N) = r) := hr0
  rw [hr1.out] at ce
  clear hr0 hr1 hp hin hr hl eg
  generalize es.length = L at *
  go_enter Try.func59, Try.ntmps59
  go_wp2_with fail
  refine (ce _ ?_ ?_ ?_).mono ?_
  · show Below _ _ _; (repeat' (first | (with_reducible exact Below.refl _ _) | (with_reducible assumption) | (with_reducible refine Below.alloc ?_ ?_ _) | (with_reducible refine Below.drew ?_) | (with_reducible refine below_drewN ?_ _) | (with_reducible refine Below.setCell ?_ ?_ _) | (with_reducible refine Below.trans ?_ (Below.mono (by assumption) ?_)) | (first | omega | (simp only [World.size_alloc, World.size_setCell, World.size_drew]; omega) | (simp; omega) | (simp; done))))
  · simp
  · refine ⟨by simp, ?_, ?_, ?_⟩
    · exact (((Blk.new' (n := w.heap.size + 1) (w.alloc _) (by simp)).alloc _).cellAt 0 _ rfl)
    · exact ((Blk.new' (n := w.heap.size + 2) ((w.alloc _).alloc _) (by simp)).cellAt 0 _ rfl)
    · exact ((Blk.new' (n := w.heap.size + 2) ((w.alloc _).alloc _) (by simp)).frozen 0)
  · rintro e w1 ⟨rfl, hs, hb1, hI⟩
    have h2 := hI.c2
    have B1 : Below w.heap.size w w1 := by (repeat' (first | (with_reducible exact Below.refl _ _) | (with_reducible assumption) | (with_reducible refine Below.alloc ?_ ?_ _) | (with_reducible refine Below.drew ?_) | (with_reducible refine below_drewN ?_ _) | (with_reducible refine Below.setCell ?_ ?_ _) | (with_reducible refine Below.trans ?_ (Below.mono (by assumption) ?_)) | (first | omega | (simp only [World.size_alloc, World.size_setCell, World.size_drew]; omega) | (simp; omega) | (simp; done))))
    clear hI hs hb1 ce
    go_wp2
    go_ret
    exact ⟨rfl, B1⟩

theorem conn1_b (k s : Int) (w : World) : Calls Try.prog 60 #[.int .i64 k, .int .i64 s] w fun e w' => e = .returned (.bool (decide (s = 1))) ∧ Below w.heap.size w w' := by
  by_cases h : s = 1
  · subst h
    go_enter Try.func60, Try.ntmps60
    go_wp2
    go_ret
    exact ⟨rfl, by (repeat' (first | (with_reducible exact Below.refl _ _) | (with_reducible assumption) | (with_reducible refine Below.alloc ?_ ?_ _) | (with_reducible refine Below.drew ?_) | (with_reducible refine below_drewN ?_ _) | (with_reducible refine Below.setCell ?_ ?_ _) | (with_reducible refine Below.trans ?_ (Below.mono (by assumption) ?_)) | (first | omega | (simp only [World.size_alloc, World.size_setCell, World.size_drew]; omega) | (simp; omega) | (simp; done))))⟩
  · have h1 : (s == 1) = false := by simpa using h
    have h2 : Hid (decide (s = 1) = false) := by show _ = _; simpa using h
    clear h
    go_enter Try.func60, Try.ntmps60
    go_wp2
    go_ret
    exact ⟨by rw [h2.out]; rfl, by (repeat' (first | (with_reducible exact Below.refl _ _) | (with_reducible assumption) | (with_reducible refine Below.alloc ?_ ?_ _) | (with_reducible refine Below.drew ?_) | (with_reducible refine below_drewN ?_ _) | (with_reducible refine Below.setCell ?_ ?_ _) | (with_reducible refine Below.trans ?_ (Below.mono (by assumption) ?_)) | (first | omega | (simp only [World.size_alloc, World.size_setCell, World.size_drew]; omega) | (simp; omega) | (simp; done))))⟩
theorem ent_conn1 : Ent 60 := enters_of Try.func60 (by kernel_rfl) rfl
theorem forest1_b (N : Nat) (hg : Nat) (k s : Int) (w : World) (hk : 0 ≤ k ∧ k ≤ 1000) (hs : -1000 ≤ s ∧ s ≤ 1000) (hc : w.cell? ⟨hg, 0, none⟩ = some (.int .i64 N)) : Calls Try.prog 61 #[.int .i64 k, .int .i64 s, .pointer (some ⟨hg, 0, none⟩)] w fun e w' => e = .returned (.bool (decide (k + s = N))) ∧ Below w.heap.size w w' := by
  by_cases h : k + s = N
  · have hw : wrap64 (k + s) = (N : Int) := by rw [wrap64_small (by omega) (by omega), h]
    have hd : Hid (decide (k + s = N) = true) := by show _ = _; simpa using h
    clear h hk hs
    go_enter Try.func61, Try.ntmps61
    go_wp2
    go_ret
    exact ⟨by rw [hd.out]; rfl, by (repeat' (first | (with_reducible exact Below.refl _ _) | (with_reducible assumption) | (with_reducible refine Below.alloc ?_ ?_ _) | (with_reducible refine Below.drew ?_) | (with_reducible refine below_drewN ?_ _) | (with_reducible refine Below.setCell ?_ ?_ _) | (with_reducible refine Below.trans ?_ (Below.mono (by assumption) ?_)) | (first | omega | (simp only [World.size_alloc, World.size_setCell, World.size_drew]; omega) | (simp; omega) | (simp; done))))⟩
  · have h1 : (k + s == N) = false := by simpa using h
    have hw : wrap64 (k + s) = k + s := wrap64_small (by omega) (by omega)
    have hd : Hid (decide (k + s = N) = false) := by show _ = _; simpa using h
    clear h hk hs
    go_enter Try.func61, Try.ntmps61
    go_wp2
    go_ret
    exact ⟨by rw [hd.out]; rfl, by (repeat' (first | (with_reducible exact Below.refl _ _) | (with_reducible assumption) | (with_reducible refine Below.alloc ?_ ?_ _) | (with_reducible refine Below.drew ?_) | (with_reducible refine below_drewN ?_ _) | (with_reducible refine Below.setCell ?_ ?_ _) | (with_reducible refine Below.trans ?_ (Below.mono (by assumption) ?_)) | (first | omega | (simp only [World.size_alloc, World.size_setCell, World.size_drew]; omega) | (simp; omega) | (simp; done))))⟩
theorem ent_forest1 : Ent 61 := enters_of Try.func61 (by kernel_rfl) rfl

/-- The code for a graph and a range that allows at most m vertices. -/
def scode (qg qr : Bool) (n m : Int) : Int := if gcode qg qr = 0 then (if m < n then 3 else 0) else gcode qg qr
theorem smallCode_b (n : Int) (A : Option Addr) (c : Nat) (es : List (Int × Int)) (m : Int) (w : World) (qg qr : Bool) (v : Int) (hq : Hid (isGraphB n es = qg)) (hv : Hid (scode qg qr n m = v)) (hl : es.length ≤ 1048576) (hr : RdE w A es) :
    Calls Try.prog 82 #[.agg #[.int .i64 n, .slice A es.length c], .bool qr, .int .i64 m] w fun e w' => e = .returned (.int .i64 v) ∧ Below w.heap.size w w' := by
  have cg := fun W (hW : Below w.heap.size w W) => graphCode_b n A c es W qg qr hq hl (hr.below hW)
  obtain ⟨u, Hu⟩ : ∃ u, Hid (gcode qg qr = u) := ⟨_, rfl⟩
  rw [Hu.out] at cg
  by_cases h : u = 0
  · subst h
    by_cases h2 : m < n
    · have Hv : Hid (3 = v) := by show _ = _; rw [← hv.out, scode, if_pos Hu.out, if_pos h2]
      clear hv hr hq Hu
      generalize es.length = L at *
      go_enter Try.func82, Try.ntmps82
      go_wp2_with fail
      refine (cg _ (by (repeat' (first | (with_reducible exact Below.refl _ _) | (with_reducible assumption) | (with_reducible refine Below.alloc ?_ ?_ _) | (with_reducible refine Below.drew ?_) | (with_reducible refine below_drewN ?_ _) | (with_reducible refine Below.setCell ?_ ?_ _) | (with_reducible refine Below.trans ?_ (Below.mono (by assumption) ?_)) | (first | omega | (simp only [World.size_alloc, World.size_setCell, World.size_drew]; omega) | (simp; omega) | (simp; done)))))).mono ?_
      rintro e w1 ⟨rfl, hb1⟩
      simp only [World.size_alloc, World.size_setCell, World.size_drew] at hb1; have B1 : Below w.heap.size w w1 := by (repeat' (first | (with_reducible exact Below.refl _ _) | (with_reducible assumption) | (with_reducible refine Below.alloc ?_ ?_ _) | (with_reducible refine Below.drew ?_) | (with_reducible refine below_drewN ?_ _) | (with_reducible refine Below.setCell ?_ ?_ _) | (with_reducible refine Below.trans ?_ (Below.mono (by assumption) ?_)) | (first | omega | (simp only [World.size_alloc, World.size_setCell, World.size_drew]; omega) | (simp; omega) | (simp; done))))
      have K1 : Blk w1 w.heap.size 30 #[.int .i64 n, .slice A L c] := (Blk.new' _ rfl).below hb1 (by omega)
      have d10 := K1.cellAt 0 _ rfl; have d11 := K1.cellAt 1 _ rfl; have z1 := hb1.size; simp only [World.size_alloc, World.size_setCell, World.size_drew] at z1
      go_wp2
      go_ret
      exact ⟨by rw [← Hv.out]; rfl, B1⟩
    · have Hv : Hid (0 = v) := by show _ = _; rw [← hv.out, scode, if_pos Hu.out, if_neg h2]
      clear hv hr hq Hu
      generalize es.length = L at *
      go_enter Try.func82, Try.ntmps82
      go_wp2_with fail
      refine (cg _ (by (repeat' (first | (with_reducible exact Below.refl _ _) | (with_reducible assumption) | (with_reducible refine Below.alloc ?_ ?_ _) | (with_reducible refine Below.drew ?_) | (with_reducible refine below_drewN ?_ _) | (with_reducible refine Below.setCell ?_ ?_ _) | (with_reducible refine Below.trans ?_ (Below.mono (by assumption) ?_)) | (first | omega | (simp only [World.size_alloc, World.size_setCell, World.size_drew]; omega) | (simp; omega) | (simp; done)))))).mono ?_
      rintro e w1 ⟨rfl, hb1⟩
      simp only [World.size_alloc, World.size_setCell, World.size_drew] at hb1; have B1 : Below w.heap.size w w1 := by (repeat' (first | (with_reducible exact Below.refl _ _) | (with_reducible assumption) | (with_reducible refine Below.alloc ?_ ?_ _) | (with_reducible refine Below.drew ?_) | (with_reducible refine below_drewN ?_ _) | (with_reducible refine Below.setCell ?_ ?_ _) | (with_reducible refine Below.trans ?_ (Below.mono (by assumption) ?_)) | (first | omega | (simp only [World.size_alloc, World.size_setCell, World.size_drew]; omega) | (simp; omega) | (simp; done))))
      have K1 : Blk w1 w.heap.size 30 #[.int .i64 n, .slice A L c] := (Blk.new' _ rfl).below hb1 (by omega)
      have d10 := K1.cellAt 0 _ rfl; have d11 := K1.cellAt 1 _ rfl; have z1 := hb1.size; simp only [World.size_alloc, World.size_setCell, World.size_drew] at z1
      go_wp2
      go_ret
      exact ⟨by rw [← Hv.out]; rfl, B1⟩
  · have Hv : Hid (u = v) := by show _ = _; rw [← hv.out, scode, if_neg (by rw [Hu.out]; exact h), Hu.out]
    have g1 : (u != 0) = true := by simpa using h
    have g2 : (u == 0) = false := by simpa using h
    clear hv hr hq Hu
    generalize es.length = L at *
    go_enter Try.func82, Try.ntmps82
    go_wp2_with fail
    refine (cg _ (by (repeat' (first | (with_reducible exact Below.refl _ _) | (with_reducible assumption) | (with_reducible refine Below.alloc ?_ ?_ _) | (with_reducible refine Below.drew ?_) | (with_reducible refine below_drewN ?_ _) | (with_reducible refine Below.setCell ?_ ?_ _) | (with_reducible refine Below.trans ?_ (Below.mono (by assumption) ?_)) | (first | omega | (simp only [World.size_alloc, World.size_setCell, World.size_drew]; omega) | (simp; omega) | (simp; done)))))).mono ?_
    rintro e w1 ⟨rfl, hb1⟩
    go_wp2
    go_ret
    exact ⟨by rw [← Hv.out]; rfl, by (repeat' (first | (with_reducible exact Below.refl _ _) | (with_reducible assumption) | (with_reducible refine Below.alloc ?_ ?_ _) | (with_reducible refine Below.drew ?_) | (with_reducible refine below_drewN ?_ _) | (with_reducible refine Below.setCell ?_ ?_ _) | (with_reducible refine Below.trans ?_ (Below.mono (by assumption) ?_)) | (first | omega | (simp only [World.size_alloc, World.size_setCell, World.size_drew]; omega) | (simp; omega) | (simp; done))))⟩
theorem expandedCode_b (n : Int) (A : Option Addr) (c : Nat) (es : List (Int × Int)) (w : World) (qg qr : Bool) (v : Int) (hq : Hid (isGraphB n es = qg)) (hv : Hid (scode qg qr n 12 = v)) (hl : es.length ≤ 1048576) (hr : RdE w A es) :
    Calls Try.prog 58 #[.agg #[.int .i64 n, .slice A es.length c], .bool qr] w fun e w' => e = .returned (.int .i64 v) ∧ Below w.heap.size w w' := by
  have cg := fun W (hW : Below w.heap.size w W) => smallCode_b n A c es 12 W qg qr v hq hv hl (hr.below hW)
  clear hr hq hv
  generalize es.length = L at *
  go_enter Try.func58, Try.ntmps58
  go_wp2_with fail
  refine (cg _ (by (repeat' (first | (with_reducible exact Below.refl _ _) | (with_reducible assumption) | (with_reducible refine Below.alloc ?_ ?_ _) | (with_reducible refine Below.drew ?_) | (with_reducible refine below_drewN ?_ _) | (with_reducible refine Below.setCell ?_ ?_ _) | (with_reducible refine Below.trans ?_ (Below.mono (by assumption) ?_)) | (first | omega | (simp only [World.size_alloc, World.size_setCell, World.size_drew]; omega) | (simp; omega) | (simp; done)))))).mono ?_
  rintro e w1 ⟨rfl, hb1⟩
  go_wp2
  go_ret
  exact ⟨rfl, by (repeat' (first | (with_reducible exact Below.refl _ _) | (with_reducible assumption) | (with_reducible refine Below.alloc ?_ ?_ _) | (with_reducible refine Below.drew ?_) | (with_reducible refine below_drewN ?_ _) | (with_reducible refine Below.setCell ?_ ?_ _) | (with_reducible refine Below.trans ?_ (Below.mono (by assumption) ?_)) | (first | omega | (simp only [World.size_alloc, World.size_setCell, World.size_drew]; omega) | (simp; omega) | (simp; done))))⟩

/-- How many sets are as told; and the code. -/
def exOf (q : Nat → Int × Int → Bool) (n : Int) (es : List (Int × Int)) : Int × Int :=
  if scode (isGraphB n es) true n 12 = 0 then (cntL (q n.toNat) (leafs false es es.length 0 (idx n.toNat) 0 n) 0, 0) else (0, scode (isGraphB n es) true n 12)
def connQ (n : Nat) (x : Int × Int) : Bool := decide (x.2 = 1)
def forestQ (n : Nat) (x : Int × Int) : Bool := decide (x.1 + x.2 = (n : Int))
theorem scode_zero {qg : Bool} {n m : Int} (h : scode qg true n m = 0) : qg = true ∧ n ≤ m := by
  unfold scode at h
  cases qg
  · simp [gcode] at h
  · refine ⟨rfl, ?_⟩
    by_cases e : m < n
    · simp [gcode, e] at h
    · omega


set_option maxHeartbeats 2000000 in
theorem implCountConnecting_b (n : Int) (A : Option Addr) (c : Nat) (es : List (Int × Int)) (w : World) (hl : es.length ≤ 1048576) (hr : RdE w A es) (r v : Int) (Hr : Hid ((exOf connQ n es).1 = r)) (Hv : Hid ((exOf connQ n es).2 = v)) :
    Calls Try.prog 22 #[.agg #[.int .i64 n, .slice A es.length c]] w fun e w' => e = .returned (.tuple #[.int .i64 r, .int .i64 v]) ∧ Below w.heap.size w w' := by
  obtain ⟨qg, hg⟩ : ∃ q, Hid (isGraphB n es = q) := ⟨_, rfl⟩
  obtain ⟨u, Hu⟩ : ∃ u, Hid (scode qg true n 12 = u) := ⟨_, rfl⟩
  have cg := fun W (hW : Below w.heap.size w W) => expandedCode_b n A c es W qg true u hg Hu hl (hr.below hW)
  by_cases h : u = 0
  · subst h
    obtain ⟨rfl, hn⟩ := scode_zero Hu.out
    obtain ⟨h1, h2⟩ := isGraphB_n hg.out
    have b2 := isGraphB_len hg.out
    have hin := isGraphB_in hg.out
    obtain ⟨m, rfl⟩ : ∃ m : Nat, n = m := ⟨n.toNat, by omega⟩
    have Hr2 : Hid (cntL (connQ m) (leafs false es es.length 0 (idx m) 0 m) 0 = r) := by show _ = _; rw [← Hr.out, exOf, hg.out, if_pos Hu.out, Int.toNat_natCast]
    have Hv2 : Hid (0 = v) := by show _ = _; rw [← Hv.out, exOf, hg.out, if_pos Hu.out]
    rw [Int.toNat_natCast] at hin
    have Hin : Hid (InN m es) := hin
    have cs := fun (W : World) (hW : Below w.heap.size w W) => countSets_b m A c es 60 #[] (connQ m) W r Hr2 (by omega) (by omega) (by omega) Hin (hr.below hW) ent_conn1 (fun W' k s _ _ => conn1_b k s W')
    clear Hr Hv hr hg hin Hr2 Hu Hin
    generalize es.length = L at *
    go_enter Try.func22, Try.ntmps22
    go_wp2_with fail
    refine (cg _ (by (repeat' (first | (with_reducible exact Below.refl _ _) | (with_reducible assumption) | (with_reducible refine Below.alloc ?_ ?_ _) | (with_reducible refine Below.drew ?_) | (with_reducible refine below_drewN ?_ _) | (with_reducible refine Below.setCell ?_ ?_ _) | (with_reducible refine Below.trans ?_ (Below.mono (by assumption) ?_)) | (first | omega | (simp only [World.size_alloc, World.size_setCell, World.size_drew]; omega) | (simp; omega) | (simp; done)))))).mono ?_
    rintro e w1 ⟨rfl, hb1⟩
    simp only [World.size_alloc, World.size_setCell, World.size_drew] at hb1; have B1 : Below w.heap.size w w1 := by (repeat' (first | (with_reducible exact Below.refl _ _) | (with_reducible assumption) | (with_reducible refine Below.alloc ?_ ?_ _) | (with_reducible refine Below.drew ?_) | (with_reducible refine below_drewN ?_ _) | (with_reducible refine Below.setCell ?_ ?_ _) | (with_reducible refine Below.trans ?_ (Below.mono (by assumption) ?_)) | (first | omega | (simp only [World.size_alloc, World.size_setCell, World.size_drew]; omega) | (simp; omega) | (simp; done))))
    have K1 : Blk w1 w.heap.size 30 #[.int .i64 (m : Int), .slice A L c] := (Blk.new' _ rfl).below hb1 (by omega)
    have d10 := K1.cellAt 0 _ rfl; have d11 := K1.cellAt 1 _ rfl; have z1 := hb1.size; simp only [World.size_alloc, World.size_setCell, World.size_drew] at z1
    go_wp2_with fail
    refine (cs _ B1).mono ?_
    rintro e w2 ⟨rfl, hb2⟩
    go_wp2
    go_ret2
    exact ⟨by rw [← Hv2.out]; rfl, B1.trans (hb2.mono B1.size)⟩
  · have Hr2 : Hid (0 = r) := by show _ = _; rw [← Hr.out, exOf, hg.out, if_neg (by rw [Hu.out]; exact h)]
    have Hv2 : Hid (u = v) := by show _ = _; rw [← Hv.out, exOf, hg.out, if_neg (by rw [Hu.out]; exact h), Hu.out]
    have g1 : (u != 0) = true := by simpa using h
    have g2 : (u == 0) = false := by simpa using h
    clear Hr Hv hr hg Hu
    generalize es.length = L at *
    go_enter Try.func22, Try.ntmps22
    go_wp2_with fail
    refine (cg _ (by (repeat' (first | (with_reducible exact Below.refl _ _) | (with_reducible assumption) | (with_reducible refine Below.alloc ?_ ?_ _) | (with_reducible refine Below.drew ?_) | (with_reducible refine below_drewN ?_ _) | (with_reducible refine Below.setCell ?_ ?_ _) | (with_reducible refine Below.trans ?_ (Below.mono (by assumption) ?_)) | (first | omega | (simp only [World.size_alloc, World.size_setCell, World.size_drew]; omega) | (simp; omega) | (simp; done)))))).mono ?_
    rintro e w1 ⟨rfl, hb1⟩
    go_wp2
    go_ret2
    exact ⟨by rw [← Hr2.out, ← Hv2.out]; rfl, by (repeat' (first | (with_reducible exact Below.refl _ _) | (with_reducible assumption) | (with_reducible refine Below.alloc ?_ ?_ _) | (with_reducible refine Below.drew ?_) | (with_reducible refine below_drewN ?_ _) | (with_reducible refine Below.setCell ?_ ?_ _) | (with_reducible refine Below.trans ?_ (Below.mono (by assumption) ?_)) | (first | omega | (simp only [World.size_alloc, World.size_setCell, World.size_drew]; omega) | (simp; omega) | (simp; done))))⟩

set_option maxHeartbeats 2000000 in
theorem implCountForests_b (n : Int) (A : Option Addr) (c : Nat) (es : List (Int × Int)) (w : World) (hl : es.length ≤ 1048576) (hr : RdE w A es) (r v : Int) (Hr : Hid ((exOf forestQ n es).1 = r)) (Hv : Hid ((exOf forestQ n es).2 = v)) :
    Calls Try.prog 24 #[.agg #[.int .i64 n, .slice A es.length c]] w fun e w' => e = .returned (.tuple #[.int .i64 r, .int .i64 v]) ∧ Below w.heap.size w w' := by
  obtain ⟨qg, hg⟩ : ∃ q, Hid (isGraphB n es = q) := ⟨_, rfl⟩
  obtain ⟨u, Hu⟩ : ∃ u, Hid (scode qg true n 12 = u) := ⟨_, rfl⟩
  have cg := fun W (hW : Below w.heap.size w W) => expandedCode_b n A c es W qg true u hg Hu hl (hr.below hW)
  by_cases h : u = 0
  · subst h
    obtain ⟨rfl, hn⟩ := scode_zero Hu.out
    obtain ⟨h1, h2⟩ := isGraphB_n hg.out
    have b2 := isGraphB_len hg.out
    have hin := isGraphB_in hg.out
    obtain ⟨m, rfl⟩ : ∃ m : Nat, n = m := ⟨n.toNat, by omega⟩
    have Hr2 : Hid (cntL (forestQ m) (leafs false es es.length 0 (idx m) 0 m) 0 = r) := by show _ = _; rw [← Hr.out, exOf, hg.out, if_pos Hu.out, Int.toNat_natCast]
    have Hv2 : Hid (0 = v) := by show _ = _; rw [← Hv.out, exOf, hg.out, if_pos Hu.out]
    rw [Int.toNat_natCast] at hin
    have Hin : Hid (InN m es) := hin
    have hmf : ∀ (fn : Fn) (first cap : Array Value) (w : World), (Instr.makeFunc fn first cap).run Try.prog w = .ok (.func fn first cap) w := fun _ _ _ _ => rfl
    have cs := fun (W : World) (hW : Below w.heap.size w W) (hlt : w.heap.size < W.heap.size) (hc : W.cell? ⟨w.heap.size, 0, none⟩ = some (.int .i64 m)) => countSets_b m A c es 61 #[.pointer (some ⟨w.heap.size, 0, none⟩)] (forestQ m) W r Hr2 (by omega) (by omega) (by omega) Hin (hr.below hW) ent_forest1
      (fun W' k s hW' hok => forest1_b m w.heap.size k s W' (by unfold OkL at hok; omega) (by unfold OkL at hok; omega) (((bcell hW').1 _ _ hlt).trans hc))
    clear Hr Hv hr hg hin Hr2 Hu Hin
    generalize es.length = L at *
    go_enter Try.func24, Try.ntmps24
    go_wp2_with fail
    refine (cg _ (by (repeat' (first | (with_reducible exact Below.refl _ _) | (with_reducible assumption) | (with_reducible refine Below.alloc ?_ ?_ _) | (with_reducible refine Below.drew ?_) | (with_reducible refine below_drewN ?_ _) | (with_reducible refine Below.setCell ?_ ?_ _) | (with_reducible refine Below.trans ?_ (Below.mono (by assumption) ?_)) | (first | omega | (simp only [World.size_alloc, World.size_setCell, World.size_drew]; omega) | (simp; omega) | (simp; done)))))).mono ?_
    rintro e w1 ⟨rfl, hb1⟩
    simp only [World.size_alloc, World.size_setCell, World.size_drew] at hb1; have B1 : Below w.heap.size w w1 := by (repeat' (first | (with_reducible exact Below.refl _ _) | (with_reducible assumption) | (with_reducible refine Below.alloc ?_ ?_ _) | (with_reducible refine Below.drew ?_) | (with_reducible refine below_drewN ?_ _) | (with_reducible refine Below.setCell ?_ ?_ _) | (with_reducible refine Below.trans ?_ (Below.mono (by assumption) ?_)) | (first | omega | (simp only [World.size_alloc, World.size_setCell, World.size_drew]; omega) | (simp; omega) | (simp; done))))
    have K1 : Blk w1 w.heap.size 30 #[.int .i64 (m : Int), .slice A L c] := (Blk.new' _ rfl).below hb1 (by omega)
    have d10 := K1.cellAt 0 _ rfl; have d11 := K1.cellAt 1 _ rfl; have z1 := hb1.size; simp only [World.size_alloc, World.size_setCell, World.size_drew] at z1
    go_wp2_with fail
    refine (cs _ B1 K1.lt d10).mono ?_
    rintro e w2 ⟨rfl, hb2⟩
    go_wp2
    go_ret2
    exact ⟨by rw [← Hv2.out]; rfl, B1.trans (hb2.mono B1.size)⟩
  · have Hr2 : Hid (0 = r) := by show _ = _; rw [← Hr.out, exOf, hg.out, if_neg (by rw [Hu.out]; exact h)]
    have Hv2 : Hid (u = v) := by show _ = _; rw [← Hv.out, exOf, hg.out, if_neg (by rw [Hu.out]; exact h), Hu.out]
    have g1 : (u != 0) = true := by simpa using h
    have g2 : (u == 0) = false := by simpa using h
    clear Hr Hv hr hg Hu
    generalize es.length = L at *
    go_enter Try.func24, Try.ntmps24
    go_wp2_with fail
    refine (cg _ (by (repeat' (first | (with_reducible exact Below.refl _ _) | (with_reducible assumption) | (with_reducible refine Below.alloc ?_ ?_ _) | (with_reducible refine Below.drew ?_) | (with_reducible refine below_drewN ?_ _) | (with_reducible refine Below.setCell ?_ ?_ _) | (with_reducible refine Below.trans ?_ (Below.mono (by assumption) ?_)) | (first | omega | (simp only [World.size_alloc, World.size_setCell, World.size_drew]; omega) | (simp; omega) | (simp; done)))))).mono ?_
    rintro e w1 ⟨rfl, hb1⟩
    go_wp2
    go_ret2
    exact ⟨by rw [← Hr2.out, ← Hv2.out]; rfl, by (repeat' (first | (with_reducible exact Below.refl _ _) | (with_reducible assumption) | (with_reducible refine Below.alloc ?_ ?_ _) | (with_reducible refine Below.drew ?_) | (with_reducible refine below_drewN ?_ _) | (with_reducible refine Below.setCell ?_ ?_ _) | (with_reducible refine Below.trans ?_ (Below.mono (by assumption) ?_)) | (first | omega | (simp only [World.size_alloc, World.size_setCell, World.size_drew]; omega) | (simp; omega) | (simp; done))))⟩
end Go.Proofs.Ytkpnplldnihalaa
