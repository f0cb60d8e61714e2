/- The reference's LeadsTo. No statement of the program is proved here. -/
import Derived.Test.YtblidpodbpoaeaaLe4
import Derived.Test.YtblidpodbpoaeaaOr3
namespace Go.Proofs.Ytblidpodbpoaeaa
open Go.RowKit
set_option linter.unusedSimpArgs false
set_option linter.unusedVariables false
set_option maxRecDepth 20000

set_option maxHeartbeats 4000000 in
/-- The errors. -/
theorem specLeads_err (n : Int) (A : Option Addr) (c : Nat) (es : List (Int × Int)) (m : Int) (B : Option Addr) (d : Nat) (hs : List (Int × Int)) (D : Option Addr) (e : Nat) (p : List Int) (w : World) (hl : es.length ≤ 1048576) (hl2 : hs.length ≤ 1048576) (hpl : p.length ≤ 1048576) (hr : RdE w A es) (hr2 : RdE w B hs) (hrp : RdI w D p) (q1 q2 : Bool) (h1 : Hid (isGraphB n es = q1)) (h2 : Hid (isGraphB m hs = q2)) (r : Int)
    (h : (q1 = false ∧ r = 1) ∨ (q1 = true ∧ q2 = false ∧ r = 1) ∨ (q1 = true ∧ q2 = true ∧ n ≠ m ∧ r = 2) ∨ (q1 = true ∧ q2 = true ∧ n = m ∧ permB p n.toNat = false ∧ r = 2)) :
    Calls Try.prog 25 #[.agg #[.int .i64 n, .slice A es.length c], .agg #[.int .i64 m, .slice B hs.length d], .slice D p.length e] w fun x w' => x = .returned (.tuple #[.bool false, .int .i64 r]) ∧ Below w.heap.size w w' := by
  have c1 := Lib.hid fun W (hW : Below w.heap.size w W) => l01Is_b n A c es W q1 h1 hl (hr.below hW)
  have c2 := Lib.hid fun W (hW : Below w.heap.size w W) => l01Is_b m B d hs W q2 h2 hl2 (hr2.below hW)
  rcases h with ⟨rfl, rfl⟩ | ⟨rfl, rfl, rfl⟩ | ⟨rfl, rfl, hnm, rfl⟩ | ⟨rfl, rfl, hnm, hpp, rfl⟩
  · clear h1 h2 hr hr2 hrp
    generalize es.length = L at *
    generalize hs.length = M at *
    go_enter Try.func25, Try.ntmps25
    go_wp2_with fail
    refine (c1.out ((w.alloc (.cells #[.int .i64 n, .slice A L c] 24)).alloc (.cells #[.int .i64 m, .slice B M d] 24)) (by (repeat' (first | (with_reducible exact Below.refl _ _) | (with_reducible assumption) | (with_reducible refine Below.alloc ?_ ?_ _) | (with_reducible refine Below.drew ?_) | (with_reducible refine below_drewN ?_ _) | (with_reducible refine Below.setCell ?_ ?_ _) | (with_reducible refine Below.trans ?_ (Below.mono (by assumption) ?_)) | (first | omega | (simp only [World.size_alloc, World.size_setCell, World.size_drew]; omega) | (simp; omega) | (simp; done)))))).mono ?_
    rintro x w1 ⟨rfl, hb1⟩
    go_wp2
    go_ret2
    exact ⟨rfl, by (repeat' (first | (with_reducible exact Below.refl _ _) | (with_reducible assumption) | (with_reducible refine Below.alloc ?_ ?_ _) | (with_reducible refine Below.drew ?_) | (with_reducible refine below_drewN ?_ _) | (with_reducible refine Below.setCell ?_ ?_ _) | (with_reducible refine Below.trans ?_ (Below.mono (by assumption) ?_)) | (first | omega | (simp only [World.size_alloc, World.size_setCell, World.size_drew]; omega) | (simp; omega) | (simp; done))))⟩
  · clear h1 h2 hr hr2 hrp
    generalize es.length = L at *
    generalize hs.length = M at *
    go_enter Try.func25, Try.ntmps25
    go_wp2_with fail
    refine (c1.out ((w.alloc (.cells #[.int .i64 n, .slice A L c] 24)).alloc (.cells #[.int .i64 m, .slice B M d] 24)) (by (repeat' (first | (with_reducible exact Below.refl _ _) | (with_reducible assumption) | (with_reducible refine Below.alloc ?_ ?_ _) | (with_reducible refine Below.drew ?_) | (with_reducible refine below_drewN ?_ _) | (with_reducible refine Below.setCell ?_ ?_ _) | (with_reducible refine Below.trans ?_ (Below.mono (by assumption) ?_)) | (first | omega | (simp only [World.size_alloc, World.size_setCell, World.size_drew]; omega) | (simp; omega) | (simp; done)))))).mono ?_
    rintro x w1 ⟨rfl, hb1⟩
    have HK0 := Lib.hid ((((Blk.new w _ _).alloc _).below hb1 (by simp; omega)) : Blk w1 w.heap.size 24 #[.int .i64 n, .slice A L c])
    have HK1 := Lib.hid (((Blk.new' (n := w.heap.size + 1) _ (by simp)).below hb1 (by simp)) : Blk w1 (w.heap.size + 1) 24 #[.int .i64 m, .slice B M d])
    have Hb1 : Hid (Below w.heap.size w w1) := by show Below _ _ _; exact Below.trans (b := ((w.alloc (.cells #[.int .i64 n, .slice A L c] 24)).alloc (.cells #[.int .i64 m, .slice B M d] 24))) (by (repeat' (first | (with_reducible exact Below.refl _ _) | (with_reducible assumption) | (with_reducible refine Below.alloc ?_ ?_ _) | (with_reducible refine Below.drew ?_) | (with_reducible refine below_drewN ?_ _) | (with_reducible refine Below.setCell ?_ ?_ _) | (with_reducible refine Below.trans ?_ (Below.mono (by assumption) ?_)) | (first | omega | (simp only [World.size_alloc, World.size_setCell, World.size_drew]; omega) | (simp; omega) | (simp; done))))) (hb1.mono (by simp; omega))
    have k10 := HK1.out.cellAt 0 _ rfl
    have k11 := HK1.out.cellAt 1 _ rfl
    clear hb1
    go_wp2_with fail
    refine (c2.out w1 Hb1.out).mono ?_
    rintro x w2 ⟨rfl, hb2⟩
    go_wp2
    go_ret2
    exact ⟨rfl, Hb1.out.trans (hb2.mono (by have := HK1.out.lt; omega))⟩
  · have g0 : (n != m) = true := by simpa using hnm
    clear h1 h2 hr hr2 hrp hnm
    generalize es.length = L at *
    generalize hs.length = M at *
    go_enter Try.func25, Try.ntmps25
    go_wp2_with fail
    refine (c1.out ((w.alloc (.cells #[.int .i64 n, .slice A L c] 24)).alloc (.cells #[.int .i64 m, .slice B M d] 24)) (by (repeat' (first | (with_reducible exact Below.refl _ _) | (with_reducible assumption) | (with_reducible refine Below.alloc ?_ ?_ _) | (with_reducible refine Below.drew ?_) | (with_reducible refine below_drewN ?_ _) | (with_reducible refine Below.setCell ?_ ?_ _) | (with_reducible refine Below.trans ?_ (Below.mono (by assumption) ?_)) | (first | omega | (simp only [World.size_alloc, World.size_setCell, World.size_drew]; omega) | (simp; omega) | (simp; done)))))).mono ?_
    rintro x w1 ⟨rfl, hb1⟩
    have HK0 := Lib.hid ((((Blk.new w _ _).alloc _).below hb1 (by simp; omega)) : Blk w1 w.heap.size 24 #[.int .i64 n, .slice A L c])
    have HK1 := Lib.hid (((Blk.new' (n := w.heap.size + 1) _ (by simp)).below hb1 (by simp)) : Blk w1 (w.heap.size + 1) 24 #[.int .i64 m, .slice B M d])
    have Hb1 : Hid (Below w.heap.size w w1) := by show Below _ _ _; exact Below.trans (b := ((w.alloc (.cells #[.int .i64 n, .slice A L c] 24)).alloc (.cells #[.int .i64 m, .slice B M d] 24))) (by (repeat' (first | (with_reducible exact Below.refl _ _) | (with_reducible assumption) | (with_reducible refine Below.alloc ?_ ?_ _) | (with_reducible refine Below.drew ?_) | (with_reducible refine below_drewN ?_ _) | (with_reducible refine Below.setCell ?_ ?_ _) | (with_reducible refine Below.trans ?_ (Below.mono (by assumption) ?_)) | (first | omega | (simp only [World.size_alloc, World.size_setCell, World.size_drew]; omega) | (simp; omega) | (simp; done))))) (hb1.mono (by simp; omega))
    have k10 := HK1.out.cellAt 0 _ rfl
    have k11 := HK1.out.cellAt 1 _ rfl
    clear hb1
    go_wp2_with fail
    refine (c2.out w1 Hb1.out).mono ?_
    rintro x w2 ⟨rfl, hb2⟩
    have HK02 := Lib.hid (HK0.out.below hb2 (by have := HK1.out.lt; omega))
    have HK12 := Lib.hid (HK1.out.below hb2 HK1.out.lt)
    have Hb2 : Hid (Below w.heap.size w w2) := Hb1.out.trans (hb2.mono (by have := HK1.out.lt; omega))
    have s2 := HK12.out.lt
    clear hb2 k10 k11 HK0 HK1 Hb1
    have k00 := HK02.out.cellAt 0 _ rfl
    have k10 := HK12.out.cellAt 0 _ rfl
    go_wp2
    go_ret2
    exact ⟨rfl, Hb2.out⟩
  · have g0 : (n != m) = false := by simpa using hnm
    have hn := isGraphB_n h1.out
    obtain ⟨N, rfl⟩ : ∃ N : Nat, n = N := ⟨n.toNat, by omega⟩
    rw [Int.toNat_natCast] at hpp
    have c3 := Lib.hid fun W (hW : Below w.heap.size w W) => l10Is_b D e p N W false hpp (by omega) hpl (hrp.below hW)
    clear h1 h2 hr hr2 hrp hnm hpp hn
    generalize p.length = K at *
    generalize es.length = L at *
    generalize hs.length = M at *
    go_enter Try.func25, Try.ntmps25
    go_wp2_with fail
    refine (c1.out ((w.alloc (.cells #[.int .i64 (N : Int), .slice A L c] 24)).alloc (.cells #[.int .i64 m, .slice B M d] 24)) (by (repeat' (first | (with_reducible exact Below.refl _ _) | (with_reducible assumption) | (with_reducible refine Below.alloc ?_ ?_ _) | (with_reducible refine Below.drew ?_) | (with_reducible refine below_drewN ?_ _) | (with_reducible refine Below.setCell ?_ ?_ _) | (with_reducible refine Below.trans ?_ (Below.mono (by assumption) ?_)) | (first | omega | (simp only [World.size_alloc, World.size_setCell, World.size_drew]; omega) | (simp; omega) | (simp; done)))))).mono ?_
    rintro x w1 ⟨rfl, hb1⟩
    have HK0 := Lib.hid ((((Blk.new w _ _).alloc _).below hb1 (by simp; omega)) : Blk w1 w.heap.size 24 #[.int .i64 (N : Int), .slice A L c])
    have HK1 := Lib.hid (((Blk.new' (n := w.heap.size + 1) _ (by simp)).below hb1 (by simp)) : Blk w1 (w.heap.size + 1) 24 #[.int .i64 m, .slice B M d])
    have Hb1 : Hid (Below w.heap.size w w1) := by show Below _ _ _; exact Below.trans (b := ((w.alloc (.cells #[.int .i64 (N : Int), .slice A L c] 24)).alloc (.cells #[.int .i64 m, .slice B M d] 24))) (by (repeat' (first | (with_reducible exact Below.refl _ _) | (with_reducible assumption) | (with_reducible refine Below.alloc ?_ ?_ _) | (with_reducible refine Below.drew ?_) | (with_reducible refine below_drewN ?_ _) | (with_reducible refine Below.setCell ?_ ?_ _) | (with_reducible refine Below.trans ?_ (Below.mono (by assumption) ?_)) | (first | omega | (simp only [World.size_alloc, World.size_setCell, World.size_drew]; omega) | (simp; omega) | (simp; done))))) (hb1.mono (by simp; omega))
    have k10 := HK1.out.cellAt 0 _ rfl
    have k11 := HK1.out.cellAt 1 _ rfl
    clear hb1
    go_wp2_with fail
    refine (c2.out w1 Hb1.out).mono ?_
    rintro x w2 ⟨rfl, hb2⟩
    have HK02 := Lib.hid (HK0.out.below hb2 (by have := HK1.out.lt; omega))
    have HK12 := Lib.hid (HK1.out.below hb2 HK1.out.lt)
    have Hb2 : Hid (Below w.heap.size w w2) := Hb1.out.trans (hb2.mono (by have := HK1.out.lt; omega))
    have s2 := HK12.out.lt
    clear hb2 k10 k11 HK0 HK1 Hb1
    have k00 := HK02.out.cellAt 0 _ rfl
    have k10 := HK12.out.cellAt 0 _ rfl
    go_wp2_with fail
    refine (c3.out w2 Hb2.out).mono ?_
    rintro x w3 ⟨rfl, hb3⟩
    go_wp2
    go_ret2
    exact ⟨rfl, Hb2.out.trans (hb3.mono (by omega))⟩

set_option maxHeartbeats 8000000 in
/-- The answer. -/
theorem specLeads_yes (N : Nat) (A : Option Addr) (c : Nat) (es : List (Int × Int)) (B : Option Addr) (d : Nat) (hs : List (Int × Int)) (D : Option Addr) (e : Nat) (p : List Int) (w : World) (hl : es.length ≤ 1000) (hl2 : hs.length ≤ 1000) (hr : RdE w A es) (hr2 : RdE w B hs) (hrp : RdI w D p) (h1 : Hid (isGraphB N es = true)) (h2 : Hid (isGraphB N hs = true)) (hp : Hid (permB p N = true)) (q : Bool) (hq : Hid (leadsB es hs p N = q)) :
    Calls Try.prog 25 #[.agg #[.int .i64 N, .slice A es.length c], .agg #[.int .i64 N, .slice B hs.length d], .slice D p.length e] w fun x w' => x = .returned (.tuple #[.bool q, .int .i64 0]) ∧ Below w.heap.size w w' := by
  have hn := isGraphB_n h1.out
  have hren := permB_ren hp.out
  have hin1 := isGraphB_in h1.out
  have hin2 := isGraphB_in h2.out
  rw [Int.toNat_natCast] at hin1 hin2
  have c1 := Lib.hid fun W (hW : Below w.heap.size w W) => l01Is_b N A c es W true h1 (by omega) (hr.below hW)
  have c2 := Lib.hid fun W (hW : Below w.heap.size w W) => l01Is_b N B d hs W true h2 (by omega) (hr2.below hW)
  have c3 := Lib.hid fun W (hW : Below w.heap.size w W) => l10Is_b D e p N W true hp (by omega) (by rw [hren.len]; omega) (hrp.below hW)
  have c4 := Lib.hid fun W (hW : Below w.heap.size w W) => l10Rows_b N A c es W (by omega) hl hin1 (isGraphB_ne h1.out).2 (hr.below hW)
  have c5 := Lib.hid fun W (hW : Below w.heap.size w W) => l10Rows_b N B d hs W (by omega) hl2 hin2 (isGraphB_ne h2.out).2 (hr2.below hW)
  have Hren := Lib.hid hren
  have Hrp : Hid (∀ W, Below w.heap.size w W → RdI W D p) := fun W hW => hrp.below hW
  have HN : Hid (2 ≤ N ∧ N ≤ 20) := by show _ ∧ _; omega
  have HL := Lib.hid hren.len
  rw [HL.out] at c3 ⊢
  have g0 : ((N : Int) != (N : Int)) = false := by simp
  clear h1 h2 hp hr hr2 hrp hn hin1 hin2 hren hl hl2
  generalize es.length = L at *
  generalize hs.length = M at *
  go_enter Try.func25, Try.ntmps25
  go_wp2_with fail
  refine (c1.out ((w.alloc (.cells #[.int .i64 (N : Int), .slice A L c] 24)).alloc (.cells #[.int .i64 (N : Int), .slice B M d] 24)) (by (repeat' (first | (with_reducible exact Below.refl _ _) | (with_reducible assumption) | (with_reducible refine Below.alloc ?_ ?_ _) | (with_reducible refine Below.drew ?_) | (with_reducible refine below_drewN ?_ _) | (with_reducible refine Below.setCell ?_ ?_ _) | (with_reducible refine Below.trans ?_ (Below.mono (by assumption) ?_)) | (first | omega | (simp only [World.size_alloc, World.size_setCell, World.size_drew]; omega) | (simp; omega) | (simp; done)))))).mono ?_
  rintro x w1 ⟨rfl, hb1⟩
  have HK0 := Lib.hid ((((Blk.new w _ _).alloc _).below hb1 (by simp; omega)) : Blk w1 w.heap.size 24 #[.int .i64 (N : Int), .slice A L c])
  have HK1 := Lib.hid (((Blk.new' (n := w.heap.size + 1) _ (by simp)).below hb1 (by simp)) : Blk w1 (w.heap.size + 1) 24 #[.int .i64 (N : Int), .slice B M d])
  have Hb1 : Hid (Below w.heap.size w w1) := by show Below _ _ _; exact Below.trans (b := ((w.alloc (.cells #[.int .i64 (N : Int), .slice A L c] 24)).alloc (.cells #[.int .i64 (N : Int), .slice B M d] 24))) (by (repeat' (first | (with_reducible exact Below.refl _ _) | (with_reducible assumption) | (with_reducible refine Below.alloc ?_ ?_ _) | (with_reducible refine Below.drew ?_) | (with_reducible refine below_drewN ?_ _) | (with_reducible refine Below.setCell ?_ ?_ _) | (with_reducible refine Below.trans ?_ (Below.mono (by assumption) ?_)) | (first | omega | (simp only [World.size_alloc, World.size_setCell, World.size_drew]; omega) | (simp; omega) | (simp; done))))) (hb1.mono (by simp; omega))
  have k10 := HK1.out.cellAt 0 _ rfl
  have k11 := HK1.out.cellAt 1 _ rfl
  clear hb1
  go_wp2_with fail
  refine (c2.out w1 Hb1.out).mono ?_
  rintro x w2 ⟨rfl, hb2⟩
  have HK02 := Lib.hid (HK0.out.below hb2 (by have := HK1.out.lt; omega))
  have HK12 := Lib.hid (HK1.out.below hb2 HK1.out.lt)
  have Hb2 : Hid (Below w.heap.size w w2) := Hb1.out.trans (hb2.mono (by have := HK1.out.lt; omega))
  have s2 := HK12.out.lt
  clear hb2 k10 k11 HK0 HK1 Hb1
  have k00 := HK02.out.cellAt 0 _ rfl
  have k10 := HK12.out.cellAt 0 _ rfl
  go_wp2_with fail
  refine (c3.out w2 Hb2.out).mono ?_
  rintro x w3 ⟨rfl, hb3⟩
  have HK03 := Lib.hid (HK02.out.below hb3 (by omega))
  have HK13 := Lib.hid (HK12.out.below hb3 s2)
  have Hb3 : Hid (Below w.heap.size w w3) := Hb2.out.trans (hb3.mono (by omega))
  have s3 := HK13.out.lt
  clear hb3 k00 k10 HK02 HK12 Hb2 s2
  have k00 := HK03.out.cellAt 0 _ rfl
  have k01 := HK03.out.cellAt 1 _ rfl
  have k10 := HK13.out.cellAt 0 _ rfl
  have k11 := HK13.out.cellAt 1 _ rfl
  have B3 := Hb3.out
  go_wp2
  refine wp_region_noPanic ?_
  refine wp_region_held_drew (S := (fun w' => w'.cell? ⟨w.heap.size, 0, none⟩ = some (.int .i64 (N : Int)) ∧ w'.cell? ⟨w.heap.size, 1, none⟩ = some (.slice A L c) ∧ w'.cell? ⟨w.heap.size + 1, 0, none⟩ = some (.int .i64 (N : Int)) ∧ w'.cell? ⟨w.heap.size + 1, 1, none⟩ = some (.slice B M d))) (by kernel_rfl) ?_ (fun hHeld => ?_)
  · (try dsimp only); (first | go_keep | (obtain ⟨hq, _⟩ := bcell ‹Below _ _ _›; (repeat' apply And.intro) <;> (rw [hq _ _ (by first | assumption | omega | (simp; done) | (simp; omega) | (simp; assumption))] <;> (first | assumption | (simp [*]; done)))))
  refine wpAnyH_take_d (i := 0) (d := some 34) (v := ?v1) rfl rfl (by kernel_rfl) (by kernel_rfl) (by kernel_rfl) (fun _ _ _ h => h) (Or.inl ⟨by kernel_rfl, ?y1⟩) (by assumption) ?_
  case y1 => (intro w' hSw; (try dsimp only at hSw); go_simp; try with_reducible rfl)
  try simp only [Act.put, List.setIfInBounds_toArray, List.set_cons_zero, List.set_cons_succ]
  refine wpAnyH_take_d (i := 2) (d := some 36) (v := ?v2) rfl rfl (by kernel_rfl) (by kernel_rfl) (by kernel_rfl) (fun _ _ _ h => h) (Or.inl ⟨by kernel_rfl, ?y2⟩) (by assumption) ?_
  case y2 => (intro w' hSw; (try dsimp only at hSw); go_simp; try with_reducible rfl)
  try simp only [Act.put, List.setIfInBounds_toArray, List.set_cons_zero, List.set_cons_succ]
  refine wpAnyH_ready (rs := [1]) (by kernel_rfl) (by simp) ?_
  refine AllReadyH.cons rfl (fun K hK => ?_) AllReadyH.nil
  go_simp
  refine (c4.out _ (by (repeat' (first | (with_reducible exact Below.refl _ _) | (with_reducible assumption) | (with_reducible refine Below.alloc ?_ ?_ _) | (with_reducible refine Below.drew ?_) | (with_reducible refine below_drewN ?_ _) | (with_reducible refine Below.setCell ?_ ?_ _) | (with_reducible refine Below.trans ?_ (Below.mono (by assumption) ?_)) | (first | omega | (simp only [World.size_alloc, World.size_setCell, World.size_drew]; omega) | (simp; omega) | (simp; done)))))).mono ?_; rintro x w4 ⟨g1, e1, R1, rfl, hM1, hb4⟩; have z4 := hb4.size; (try simp only [World.size_alloc, World.size_setCell, World.size_drew] at z4)
  refine hK.out _ _ ?s3 (fun hHeld3 => ?_)
  case s3 => ((try dsimp only); (first | go_keep | (obtain ⟨hq, _⟩ := bcell ‹Below _ _ _›; (repeat' apply And.intro) <;> (rw [hq _ _ (by first | assumption | omega | (simp; done) | (simp; omega) | (simp; assumption))] <;> (first | assumption | (simp [*]; done))))))
  clear hK K hHeld
  have hHeld := hHeld3; clear hHeld3
  try simp only [Act.put, List.setIfInBounds_toArray, List.set_cons_zero, List.set_cons_succ]
  refine wpAnyH_ready (rs := [3]) (by kernel_rfl) (by simp) ?_
  refine AllReadyH.cons rfl (fun K hK => ?_) AllReadyH.nil
  go_simp
  refine (c5.out _ (by (repeat' (first | (with_reducible exact Below.refl _ _) | (with_reducible assumption) | (with_reducible refine Below.alloc ?_ ?_ _) | (with_reducible refine Below.drew ?_) | (with_reducible refine below_drewN ?_ _) | (with_reducible refine Below.setCell ?_ ?_ _) | (with_reducible refine Below.trans ?_ (Below.mono (by assumption) ?_)) | (first | omega | (simp only [World.size_alloc, World.size_setCell, World.size_drew]; omega) | (simp; omega) | (simp; done)))))).mono ?_; rintro x w5 ⟨g2, e2, R2, rfl, hM2, hb5⟩; have z5 := hb5.size; (try simp only [World.size_alloc, World.size_setCell, World.size_drew] at z5)
  refine hK.out _ _ ?s4 (fun hHeld4 => ?_)
  case s4 => ((try dsimp only); (first | go_keep | (obtain ⟨hq, _⟩ := bcell ‹Below _ _ _›; (repeat' apply And.intro) <;> (rw [hq _ _ (by first | assumption | omega | (simp; done) | (simp; omega) | (simp; assumption))] <;> (first | assumption | (simp [*]; done))))))
  clear hK K hHeld
  have hHeld := hHeld4; clear hHeld4
  try simp only [Act.put, List.setIfInBounds_toArray, List.set_cons_zero, List.set_cons_succ]
  refine wpAnyH_take_d (i := 4) (d := some 8) (v := ?v5) rfl rfl (by kernel_rfl) (by kernel_rfl) (by kernel_rfl) (fun _ _ _ h => h) (Or.inl ⟨by kernel_rfl, ?y5⟩) (by assumption) ?_
  case y5 => (intro w' hSw; (try dsimp only at hSw); go_simp; try with_reducible rfl)
  try simp only [Act.put, List.setIfInBounds_toArray, List.set_cons_zero, List.set_cons_succ]
  refine wpAnyH_take_d (i := 5) (d := some 9) (v := ?v6) rfl rfl (by kernel_rfl) (by kernel_rfl) (by kernel_rfl) (fun _ _ _ h => h) (Or.inl ⟨by kernel_rfl, ?y6⟩) (by assumption) ?_
  case y6 => (intro w' hSw; (try dsimp only at hSw); go_simp; try with_reducible rfl)
  try simp only [Act.put, List.setIfInBounds_toArray, List.set_cons_zero, List.set_cons_succ]
  refine wpAnyH_done (by kernel_rfl) ?_ _
  refine NoPanic.normal ?_
  clear hHeld
  have HM1 := Lib.hid (hM1.keep hb5)
  have HM2 := Lib.hid hM2
  have Hb5 : Hid (Below w.heap.size w w5) := by
    have h1 : Below w3.heap.size w3 w4 := (Below.drew (Below.refl _ _)).trans hb4
    exact B3.trans ((h1.trans (hb5.mono z4)).mono B3.size)
  have s5 := Hb5.out.size
  have hN20 : N ≤ 20 := HN.out.2
  clear hM1 hM2 hb4 hb5 z4 z5 B3 k00 k01 k10 k11 HK03 HK13 Hb3 s3 c1 c2 c3 c4 c5
  go_wp2_with fail
  go_loopw [10] (fun i wr => ∃ v : Nat, v ≤ N ∧ i = .int .i64 v ∧ Hid (∀ a, a < v → ∀ b, b < a → pairN es (a : Int) (b : Int) = pairN hs (p.getD a 0) (p.getD b 0)) ∧ Hid (Below w5.heap.size w5 wr)) (fun i _ => N - (intOf i).toNat)
  case atStart => exact ⟨0, Nat.zero_le _, rfl, fun a ha => by omega, Below.refl _ _⟩
  case round =>
    obtain ⟨v, hv, rfl, Hall, Hbel⟩ := hrel
    obtain ⟨wo, hwo⟩ : ∃ wo, wo = wr := ⟨_, rfl⟩
    subst hwo
    by_cases hlt : v < N
    · have Hvl := Lib.hid hlt
      obtain ⟨ev, ev2, ev3⟩ := idxF v N hlt
      clear hlt
      go_wp2_with fail
      go_loopw [11] (fun i wr => ∃ u : Nat, u ≤ v ∧ i = .int .i64 u ∧ Hid (∀ b, b < u → pairN es (v : Int) (b : Int) = pairN hs (p.getD v 0) (p.getD b 0)) ∧ Hid (Below w5.heap.size w5 wr)) (fun i _ => v - (intOf i).toNat)
      case atStart => exact ⟨0, Nat.zero_le _, rfl, fun b hb => by omega, Hbel⟩
      case round =>
        clear Hbel
        obtain ⟨u, hu, rfl, Hrow, Hbel⟩ := hrel
        have hsz := Hbel.out.size
        by_cases hlt2 : u < v
        · have hul : u < N := by have := Hvl.out; omega
          obtain ⟨eu, eu2, eu3⟩ := idxF u N hul
          have hr1 := Hren.out.inx v Hvl.out
          have hr2 := Hren.out.inx u hul
          obtain ⟨pv, Hpv⟩ : ∃ x : Nat, Hid (p.getD v 0 = x) := ⟨(p.getD v 0).toNat, by show _ = _; omega⟩
          obtain ⟨pu, Hpu⟩ : ∃ x : Nat, Hid (p.getD u 0 = x) := ⟨(p.getD u 0).toNat, by show _ = _; omega⟩
          have hpvN : pv < N := by have := Hpv.out; omega
          have hpuN : pu < N := by have := Hpu.out; omega
          obtain ⟨epv, epv2, epv3⟩ := idxF pv N hpvN
          obtain ⟨epu, epu2, epu3⟩ := idxF pu N hpuN
          clear hr1 hr2
          obtain ⟨b, off, rfl, hb, hc⟩ := (Hrp.out wr (Hb5.out.trans (Hbel.out.mono s5))).pos (by rw [HL.out]; omega)
          have hcv := hc v (by rw [HL.out]; exact Hvl.out)
          have hcu := hc u (by rw [HL.out]; exact hul)
          rw [Hpv.out] at hcv
          rw [Hpu.out] at hcu
          clear hc
          have hM1 := HM1.out.keep Hbel.out
          have hM2 := HM2.out.keep Hbel.out
          have a0 := hM1.head v Hvl.out
          have a1 := hM1.cell v Hvl.out u hul
          have b0 := hM2.head pv hpvN
          have b1 := hM2.cell pv hpvN pu hpuN
          rw [Nat.zero_add] at a0 b0
          obtain ⟨x1, Hx1⟩ : ∃ x, Hid (pairM es v u = x) := ⟨_, rfl⟩
          obtain ⟨x2, Hx2⟩ : ∃ x, Hid (pairM hs pv pu = x) := ⟨_, rfl⟩
          rw [Hx1.out] at a1
          rw [Hx2.out] at b1
          have Hcmp : Hid ((x1 = x2) ↔ pairN es (v : Int) (u : Int) = pairN hs (p.getD v 0) (p.getD u 0)) := by
            show _ ↔ _
            rw [← Hx1.out, ← Hx2.out, Hpv.out, Hpu.out]
            unfold pairM
            omega
          obtain ⟨q1, Hq1⟩ : ∃ q, Hid ((x1 != x2) = q) := ⟨_, rfl⟩
          have hqf := Hq1.out
          clear hM1 hM2
          go_wp2
          go_quiet (fail)
          rename_i nq
          clear hqf
          have Hb9 : Hid (Below w5.heap.size w5 (wr.drewN nq)) := below_drewN Hbel.out _
          cases q1
          · have he : x1 = x2 := by have := Hq1.out; simpa using this
            have Hrow2 : Hid (∀ b, b < u + 1 → pairN es (v : Int) (b : Int) = pairN hs (p.getD v 0) (p.getD b 0)) := fun b hb => by
              by_cases h : b = u
              · subst h; exact Hcmp.out.1 he
              · exact Hrow.out b (by omega)
            have hu20 : u ≤ 20 := by omega
            clear he
            go_wp2
            exact ⟨⟨u + 1, by omega, by go_num, Hrow2, Hb9⟩, by simp [intOf]; omega⟩
          · have hne : ¬ x1 = x2 := by have := Hq1.out; simpa using this
            have Hf : Hid (false = q) := by
              show _ = _
              rw [← hq.out]
              symm
              cases h : leadsB es hs p N
              · rfl
              · exact absurd (Hcmp.out.2 (leadsB_iff.1 h v Hvl.out u hlt2)) hne
            clear hne
            go_wp2
            go_ret2
            exact ⟨by rw [← Hf.out]; rfl, Hb5.out.trans (Hb9.out.mono s5)⟩
        · obtain rfl : u = v := by omega
          have Hall2 : Hid (∀ a, a < u + 1 → ∀ b, b < a → pairN es (a : Int) (b : Int) = pairN hs (p.getD a 0) (p.getD b 0)) := fun a ha => by
            by_cases h : a = u
            · subst h; exact Hrow.out
            · exact Hall.out a (by omega)
          have hu20 : u ≤ 20 := by omega
          go_wp2
          exact ⟨⟨u + 1, by have := Hvl.out; omega, by go_num, Hall2, Hbel⟩, by have := Hvl.out; simp [intOf]; omega⟩
    · obtain rfl : v = N := by omega
      have Hf : Hid (true = q) := by
        show _ = _
        rw [← hq.out]
        symm
        exact leadsB_iff.2 Hall.out
      go_wp2
      go_ret2
      exact ⟨by rw [← Hf.out]; rfl, Hb5.out.trans (Hbel.out.mono s5)⟩

theorem specLeads_b (n : Int) (A : Option Addr) (c : Nat) (es : List (Int × Int)) (m : Int) (B : Option Addr) (d : Nat) (hs : List (Int × Int)) (D : Option Addr) (e : Nat) (p : List Int) (w : World) (hl : es.length ≤ 1048576) (hl2 : hs.length ≤ 1048576) (hpl : p.length ≤ 1048576) (hr : RdE w A es) (hr2 : RdE w B hs) (hrp : RdI w D p)
    (r : Bool) (v : Int) (R1 : Hid ((leadV n es m hs p).1 = r)) (R2 : Hid ((leadV n es m hs p).2 = v)) :
    Calls Try.prog 25 #[.agg #[.int .i64 n, .slice A es.length c], .agg #[.int .i64 m, .slice B hs.length d], .slice D p.length e] w fun x w' => x = .returned (.tuple #[.bool r, .int .i64 v]) ∧ Below w.heap.size w w' := by
  by_cases hg : isGraphB n es = true ∧ isGraphB m hs = true
  · have hv : leadV n es m hs p = if n = m ∧ permB p n.toNat = true then (leadsB es hs p n.toNat, 0) else (false, 2) := by unfold leadV; rw [if_pos hg]
    rw [hv] at R1 R2
    by_cases h5 : n = m ∧ permB p n.toNat = true
    · rw [if_pos h5] at R1 R2
      obtain rfl : 0 = v := R2.out
      obtain ⟨rfl, h6⟩ := h5
      have hn := isGraphB_n hg.1
      have h30 := isGraphB_len hg.1
      have h31 := isGraphB_len hg.2
      obtain ⟨N, rfl⟩ : ∃ N : Nat, n = N := ⟨n.toNat, by omega⟩
      rw [Int.toNat_natCast] at h6 R1
      exact specLeads_yes N A c es B d hs D e p w (by omega) (by omega) hr hr2 hrp hg.1 hg.2 h6 r R1
    · rw [if_neg h5] at R1 R2
      obtain rfl : false = r := R1.out
      obtain rfl : 2 = v := R2.out
      refine specLeads_err n A c es m B d hs D e p w hl hl2 hpl hr hr2 hrp true true hg.1 hg.2 2 ?_
      by_cases h7 : n = m
      · refine .inr (.inr (.inr ⟨rfl, rfl, h7, ?_, rfl⟩))
        cases h8 : permB p n.toNat
        · rfl
        · exact absurd ⟨h7, h8⟩ h5
      · exact .inr (.inr (.inl ⟨rfl, rfl, h7, rfl⟩))
  · have hv : leadV n es m hs p = (false, 1) := by unfold leadV; rw [if_neg hg]
    rw [hv] at R1 R2
    obtain rfl : false = r := R1.out
    obtain rfl : 1 = v := R2.out
    refine specLeads_err n A c es m B d hs D e p w hl hl2 hpl hr hr2 hrp (isGraphB n es) (isGraphB m hs) rfl rfl 1 ?_
    cases h1 : isGraphB n es
    · exact .inl ⟨rfl, rfl⟩
    · cases h2 : isGraphB m hs
      · exact .inr (.inl ⟨rfl, rfl, rfl⟩)
      · exact absurd ⟨h1, h2⟩ hg
end Go.Proofs.Ytblidpodbpoaeaa
