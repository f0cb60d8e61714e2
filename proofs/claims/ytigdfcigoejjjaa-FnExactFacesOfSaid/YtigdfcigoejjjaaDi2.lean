/- The distances from a vertex. No statement of the program is proved here. -/
import Derived.Test.YtigdfcigoejjjaaDi1
import Derived.Test.YtigdfcigoejjjaaLa
namespace Go.Proofs.Ytigdfcigoejjjaa
open Go.RowKit
set_option linter.unusedSimpArgs false
set_option linter.unusedVariables false
set_option maxRecDepth 20000

/-- The edges that a set does not hold. -/
def pS (out : Nat) : Nat → Bool := fun i => !out.testBit i
def lenS : Value → Nat
  | .slice _ n _ => n
  | _ => 0

theorem rdO_pos {w : World} {g : Nat} {A : Option Addr} {xs : List Int} (h : RdO w g A xs) (hp : 0 < xs.length) : ∃ b off, A = some ⟨b, off, none⟩ ∧ b ≠ g ∧ b < w.heap.size ∧ ∀ j, j < xs.length → w.cell? ⟨b, off + j, none⟩ = some (.int .i64 (xs.getD j 0)) := by
  rcases h with rfl | h
  · simp at hp
  · exact h
/-- A list outside two blocks. -/
def Rd2 (w : World) (g1 g2 : Nat) (A : Option Addr) (xs : List Int) : Prop := RdO w g1 A xs ∧ RdO w g2 A xs
theorem RdO.keep2 {w w' : World} {g g2 : Nat} {A : Option Addr} {xs : List Int} (h : RdO w g A xs) (h2 : RdO w g2 A xs) (k : SameBut g2 w w') : RdO w' g A xs := by
  rcases h with h | ⟨b, off, e, hg, hlt, hc⟩
  · exact .inl h
  rcases h2 with h2 | ⟨b2, off2, e2, hg2, hlt2, hc2⟩
  · exact .inl h2
  subst e
  injection e2 with e2
  injection e2 with e2 e3 _
  subst e2; subst e3
  exact .inr ⟨b, off, rfl, hg, Nat.lt_of_lt_of_le hlt k.1, fun j hj => (World.cell?_of_block (w := w) (a := ⟨b, off + j, none⟩) (k.2 b hlt hg2)).trans (hc j hj)⟩
theorem RdO.moved {w w' : World} {g g' : Nat} {A : Option Addr} {xs : List Int} (h : RdO w g A xs) (k : SameBut g w w') (hg : g' = g ∨ w.heap.size ≤ g') : RdO w' g' A xs := by
  rcases hg with rfl | hg
  · exact h.keep k
  rcases h with h | ⟨b, off, e, hg1, hlt, hc⟩
  · exact .inl h
  exact .inr ⟨b, off, e, by omega, Nat.lt_of_lt_of_le hlt k.1, fun j hj => (World.cell?_of_block (w := w) (a := ⟨b, off + j, none⟩) (k.2 b hlt hg1)).trans (hc j hj)⟩
theorem Rd2.set2 {w : World} {g1 g2 : Nat} {A : Option Addr} {xs : List Int} (h : Rd2 w g1 g2 A xs) (i : Nat) (v : Value) : Rd2 (w.setCell ⟨g2, i, none⟩ v) g1 g2 A xs :=
  ⟨h.1.keep2 h.2 ((SameBut.refl _ _).set i v), h.2.keep ((SameBut.refl _ _).set i v)⟩
theorem Rd2.moved {w w' : World} {g1 g1' g2 : Nat} {A : Option Addr} {xs : List Int} (h : Rd2 w g1 g2 A xs) (k : SameBut g1 w w') (hg : g1' = g1 ∨ w.heap.size ≤ g1') : Rd2 w' g1' g2 A xs :=
  ⟨h.1.moved k hg, h.2.keep2 h.1 k⟩
theorem Rd2.below {w w' : World} {g1 g2 : Nat} {A : Option Addr} {xs : List Int} (h : Rd2 w g1 g2 A xs) (k : Below w.heap.size w w') : Rd2 w' g1 g2 A xs :=
  ⟨h.1.keep (SameBut.of_below k), h.2.keep (SameBut.of_below k)⟩
theorem Bfs.step_old {es : List (Int × Int)} {p : Nat → Bool} {N s u t i v : Nat} {far : List Int} {wait : List Nat} (h : Bfs es p N s far wait (some (u, t))) (hfree : ∀ j, t ≤ j → j < i → onB (es.getD j (0, 0)) (u : Int) = false)
    (hv : es.getD i (0, 0) = ((u : Int), (v : Int)) ∨ es.getD i (0, 0) = ((v : Int), (u : Int))) (hno : p i = true → 0 ≤ far.getD v 0) : Bfs es p N s far wait (some (u, i + 1)) := by
  refine h.old (i + 1) fun k h1 h2 h3 h4 v2 h5 => ?_
  by_cases e : k = i
  · subst e
    have : v2 = v := by
      rcases hv with e1 | e1 <;> rcases h5 with e2 | e2 <;> rw [e1, Prod.mk.injEq] at e2 <;> omega
    rw [this]
    exact hno h4
  · have h6 := hfree k h1 (by omega)
    have h7 : onB (es.getD k (0, 0)) (u : Int) = true := by
      rw [onB_iff]
      rcases h5 with e2 | e2 <;> rw [e2]
      · exact .inl rfl
      · exact .inr rfl
    rw [h7] at h6
    cases h6
theorem Bfs.step_new {es : List (Int × Int)} {p : Nat → Bool} {N s u t i v : Nat} {far : List Int} {wait : List Nat} (h : Bfs es p N s far wait (some (u, t))) (hi : i < es.length) (hfree : ∀ j, t ≤ j → j < i → onB (es.getD j (0, 0)) (u : Int) = false)
    (hv : es.getD i (0, 0) = ((u : Int), (v : Int)) ∨ es.getD i (0, 0) = ((v : Int), (u : Int))) (hvN : v < N) (hneg : far.getD v 0 < 0) (hp : p i = true) : Bfs es p N s (far.set v (far.getD u 0 + 1)) (wait ++ [v]) (some (u, i + 1)) := by
  have h2 := h.new hvN hneg ⟨i, hi, hp, hv⟩
  refine h2.step_old hfree hv fun _ => ?_
  rw [getD_setI _ _ _ _ (by rw [h.len]; exact hvN), if_pos rfl]
  have := (h.hd u t rfl).2.1
  omega
theorem at_ends {es : List (Int × Int)} {N i : Nat} {v : Nat} (hin : InN N es) (hi : i < es.length) (h : onB (es.getD i (0, 0)) (v : Int) = true) : ∃ x y u : Nat, es.getD i (0, 0) = ((x : Int), (y : Int)) ∧ x < N ∧ y < N ∧ u < N ∧ (x : Int) + y - v = u ∧ (es.getD i (0, 0) = ((v : Int), (u : Int)) ∨ es.getD i (0, 0) = ((u : Int), (v : Int))) := by
  obtain ⟨x, y, e, hx, hy⟩ := hin i hi
  rw [onB_iff, e] at h
  rcases h with h | h
  · refine ⟨x, y, y, e, hx, hy, hy, by dsimp only at h; omega, .inl ?_⟩
    rw [e]; dsimp only at h; rw [h]
  · refine ⟨x, y, x, e, hx, hy, hx, by dsimp only at h; omega, .inr ?_⟩
    rw [e]; dsimp only at h; rw [h]

set_option maxHeartbeats 8000000 in
theorem distances_b (N : Nat) (A : Option Addr) (c : Nat) (es : List (Int × Int)) (s out : Nat) (w : World) (hN : N ≤ 1000) (hs : s < N) (hout : out < 2 ^ 63) (hl : es.length ≤ 60) (hin : InN N es) (hr : RdE w A es) :
    Calls Try.prog 95 #[.agg #[.int .i64 N, .slice A es.length c], .int .i64 s, .int .u64 out] w fun e w' => ∃ g, e = .returned (.slice (some ⟨g, 0, none⟩) N N) ∧ ∃ far, (far.length = N ∧ ∀ u, u < N → (0 ≤ far.getD u 0 ↔ Conn es (pS out) s u)) ∧ w'.ownsRow w.heap.size 2 1 (.slice (some ⟨g, 0, none⟩) N N) N (cI far) ∧ Below w.heap.size w w' := by
  have ca := Lib.hid fun (u : Nat) W (hW : Below w.heap.size w W) => at_own (N : Int) A c es u W (by omega) (hr.below hW)
  have Hre : Hid (∀ W, Below w.heap.size w W → RdE W A es) := fun W hW => hr.below hW
  have Hbs : Hid (0 < es.length → ∃ b off, A = some ⟨b, off, none⟩ ∧ b < w.heap.size) := fun hp => by
    obtain ⟨b, off, e, h1, _⟩ := hr.pos hp
    exact ⟨b, off, e, h1⟩
  have Hin := Lib.hid hin
  have Hout := Lib.hid hout
  clear hr hin hout
  obtain ⟨L, HL⟩ : ∃ L, Hid (es.length = L) := ⟨_, rfl⟩
  simp only [HL.out] at hl ca Hbs ⊢
  obtain ⟨O, HO⟩ : ∃ O : Int, Hid ((out : Int) = O) := ⟨_, rfl⟩
  rw [HO.out]
  have f0 := idxF s N hs
  obtain ⟨f1, f2, f3⟩ := f0
  have crep := Lib.hid fun (A' : Option Addr) (c' : Nat) W (hW : RdI W A' [-1]) => repeat_b A' c' (-1) N W (by omega) hN hW
  go_enter Try.func95, Try.ntmps95
  go_wp2_with fail
  have hR1 : RdI ((w.alloc (.cells #[.int .i64 (N : Int), .slice A L c] 32)).alloc (.cells #[.int .i64 (-1)] 2)) (some ⟨w.heap.size + 1, 0, none⟩) [-1] := rdI_one (Blk.new' _ (by simp))
  have crep1 := crep.out (some ⟨w.heap.size + 1, 0, none⟩) 1 _ hR1
  refine crep1.mono ?_
  clear hR1 crep1
  rintro e w1 ⟨gf, rfl, hown1, hb1⟩
  obtain ⟨hF1, hge⟩ := blk_cI hown1 (by simp)
  have HK1 : Blk w1 w.heap.size 32 #[.int .i64 (N : Int), .slice A L c] := ((Blk.new w 32 _).alloc _).below hb1 (by (first | omega | (simp only [World.size_alloc, World.size_setCell, World.size_drew]; omega) | (simp; omega) | (simp; done)))
  have HB1 : Below w.heap.size w w1 := (show Below w.heap.size w ((w.alloc (.cells #[.int .i64 (N : Int), .slice A L c] 32)).alloc (.cells #[.int .i64 (-1)] 2)) by (repeat' (first | (with_reducible exact Below.refl _ _) | (with_reducible assumption) | (with_reducible refine Below.alloc ?_ ?_ _) | (with_reducible refine Below.drew ?_) | (with_reducible refine below_drewN ?_ _) | (with_reducible refine Below.setCell ?_ ?_ _) | (with_reducible refine Below.trans ?_ (Below.mono (by assumption) ?_)) | (first | omega | (simp only [World.size_alloc, World.size_setCell, World.size_drew]; omega) | (simp; omega) | (simp; done))))).trans (hb1.mono (by (first | omega | (simp only [World.size_alloc, World.size_setCell, World.size_drew]; omega) | (simp; omega) | (simp; done))))
  have hgf : w.heap.size < gf := by revert hge; simp only [World.size_alloc]; omega
  have hgl := hF1.lt
  have fz0 := hF1.frozen s
  have n0 := blk_cell hF1 (j := s) (by simp; exact hs)
  have HKs := HK1.far (p := ⟨gf, s, none⟩) (by show w.heap.size ≠ gf; omega) (.int .i64 0)
  have HFs := blk_set hF1 s 0
  have HBs := HB1.setCell (p := ⟨gf, s, none⟩) (by show w.heap.size ≤ gf; omega) (.int .i64 0)
  have H1 := Lib.hid HKs; have H2 := Lib.hid HFs; have H3 := Lib.hid HBs
  clear HK1 HB1 HKs HFs HBs hown1 hb1 hF1 hge crep
  go_wp2_with fail
  have HQ0 : Hid (OwnQ ((w1.setCell ⟨gf, s, none⟩ (.int .i64 0)).alloc (.cells #[.int .i64 (s : Int)] 2)) w1.heap.size (some ⟨w1.heap.size, 0, none⟩) 1 1 (nI [s])) := ⟨rfl, Nat.le_refl _, _, 0, _, rfl, Nat.le_refl _, Blk.new' _ (by simp), by simp, fun j hj => by
    obtain rfl : j = 0 := by omega
    rfl⟩
  have H1' : Hid (Blk ((w1.setCell ⟨gf, s, none⟩ (.int .i64 0)).alloc (.cells #[.int .i64 (s : Int)] 2)) w.heap.size 32 #[.int .i64 (N : Int), .slice A L c]) := H1.out.alloc _
  have H2' : Hid (Blk ((w1.setCell ⟨gf, s, none⟩ (.int .i64 0)).alloc (.cells #[.int .i64 (s : Int)] 2)) gf 2 (cI (far0 N s)).toArray) := H2.out.alloc _
  have H3' : Hid (Below w.heap.size w ((w1.setCell ⟨gf, s, none⟩ (.int .i64 0)).alloc (.cells #[.int .i64 (s : Int)] 2))) := by
    show Below _ _ _
    exact H3.out.alloc (by have := H3.out.size; exact this) _
  have hQf : gf < w1.heap.size := hgl
  obtain ⟨Q0, HQ⟩ : ∃ Q0, Hid (w1.heap.size = Q0) := ⟨_, rfl⟩
  rw [HQ.out] at HQ0 hQf
  clear H1 H2 H3 fz0 n0
  go_loopw [8] (fun qv wr => ∃ (far : List Int) (wait : List Nat) (Aq : Option Addr) (cq : Nat), qv = .slice Aq wait.length cq ∧ Hid (Bfs es (pS out) N s far wait none) ∧ Hid (wait.length ≤ cntP far) ∧ Hid (Blk wr w.heap.size 32 #[.int .i64 (N : Int), .slice A L c]) ∧ Hid (Blk wr gf 2 (cI far).toArray) ∧ Hid (OwnQ wr Q0 Aq wait.length cq (nI wait)) ∧ Hid (Q0 ≤ wr.heap.size) ∧ Hid (Below w.heap.size w wr)) (fun qv wr => 2 * (N - cntW wr gf N) + lenS qv)
  case atStart => exact ⟨far0 N s, [s], _, 1, by rw [HQ.out]; rfl, Bfs.init es (pS out) N s hs, by show _ ≤ _; rw [cnt0 N s hs]; exact Nat.le_refl _, H1', H2', by rw [← HQ.out] at HQ0 ⊢; exact HQ0, by show Q0 ≤ _; rw [← HQ.out]; simp, H3'⟩
  case round =>
    clear HQ0 H1' H2' H3'
    obtain ⟨far, wait, Aq, cq, rfl, HBf, Hwl, HK, HF, HQr, HQs, HBel⟩ := hrel
    have Hcw : Hid (cntW wr gf N = cntP far) := cntW_blk HF.out HBf.out.len
    by_cases hp : 0 < wait.length
    · obtain ⟨u, r, rfl, hu⟩ := HBf.out.wait_cons hp
      have hcN : cntP far ≤ N := by have := cntP_le far; rw [HBf.out.len] at this; exact this
      have HcN := Lib.hid hcN
      obtain ⟨m, Hm⟩ : ∃ m, Hid (r.length = m) := ⟨_, rfl⟩
      simp only [List.length_cons, Hm.out] at HQr Hwl ⊢
      obtain ⟨b, off, rfl, hq0, hbl, hcq, hq1, hq2⟩ := HQr.out.pop
      have hbQ : Q0 ≤ b := by
        obtain ⟨_, _, b9, o9, c9, e9, h9, _⟩ := HQr.out
        injection e9 with e9; injection e9 with e9 _ _; omega
      have HbQ := Lib.hid hbQ
      clear hq1 hq2 hcN hp hbQ
      obtain ⟨g1, g2, g3⟩ := idxF u N hu
      have k00 := HK.out.cellAt 0 _ rfl
      have k01 := HK.out.cellAt 1 _ rfl
      have hbelr := HBel.out
      have hgt : (0 : Int) < (m : Int) + 1 := by omega
      have hwl := HK.out.lt
      go_wp2
      refine wp_region_noPanic ?_
      refine wp_region_held_drew (S := (fun w' => w'.cell? ⟨w.heap.size, 0, none⟩ = some (.int .i64 (N : Int)) ∧ w'.cell? ⟨w.heap.size, 1, none⟩ = some (.slice A L c) ∧ w'.cell? ⟨b, off, none⟩ = some (.int .i64 (u : Int)))) (by kernel_rfl) ?_ (fun hHeld => ?_)
      · (try dsimp only); (first | go_keep | (obtain ⟨hq, _⟩ := bcell ‹Below _ _ _›; (repeat' apply And.intro) <;> (rw [hq _ _ (by first | assumption | omega | (simp; done) | (simp; omega) | (simp; assumption))] <;> (first | assumption | (simp [*]; done)))))
      refine wpAnyH_take_d (i := 0) (d := some 26) (v := ?v1) rfl rfl (by kernel_rfl) (by kernel_rfl) (by kernel_rfl) (fun _ _ _ h => h) (Or.inl ⟨by kernel_rfl, ?y1⟩) (by assumption) ?_
      case y1 => (intro w' hSw; (try dsimp only at hSw); go_simp; try with_reducible rfl)
      try simp only [Act.put, List.setIfInBounds_toArray, List.set_cons_zero, List.set_cons_succ]
      refine wpAnyH_take_d (i := 1) (d := some 27) (v := ?v2) rfl rfl (by kernel_rfl) (by kernel_rfl) (by kernel_rfl) (fun _ _ _ h => h) (Or.inl ⟨by kernel_rfl, ?y2⟩) (by assumption) ?_
      case y2 => (intro w' hSw; (try dsimp only at hSw); go_simp; try with_reducible rfl)
      try simp only [Act.put, List.setIfInBounds_toArray, List.set_cons_zero, List.set_cons_succ]
      refine wpAnyH_take_d (i := 2) (d := some 28) (v := ?v3) rfl rfl (by kernel_rfl) (by kernel_rfl) (by kernel_rfl) (fun _ _ _ h => h) (Or.inl ⟨by kernel_rfl, ?y3⟩) (by assumption) ?_
      case y3 => (intro w' hSw; (try dsimp only at hSw); go_simp; try with_reducible rfl)
      try simp only [Act.put, List.setIfInBounds_toArray, List.set_cons_zero, List.set_cons_succ]
      refine wpAnyH_take_d (i := 3) (d := some 29) (v := ?v4) rfl rfl (by kernel_rfl) (by kernel_rfl) (by kernel_rfl) (fun _ _ _ h => h) (Or.inl ⟨by kernel_rfl, ?y4⟩) (by assumption) ?_
      case y4 => (intro w' hSw; (try dsimp only at hSw); go_simp; try with_reducible rfl)
      try simp only [Act.put, List.setIfInBounds_toArray, List.set_cons_zero, List.set_cons_succ]
      refine wpAnyH_take_d (i := 6) (d := some 32) (v := ?v5) rfl rfl (by kernel_rfl) (by kernel_rfl) (by kernel_rfl) (fun _ _ _ h => h) (Or.inl ⟨by kernel_rfl, ?y5⟩) (by assumption) ?_
      case y5 => (intro w' hSw; (try dsimp only at hSw); go_simp; try with_reducible rfl)
      try simp only [Act.put, List.setIfInBounds_toArray, List.set_cons_zero, List.set_cons_succ]
      refine wpAnyH_ready (rs := [4]) (by kernel_rfl) (by simp) ?_
      refine AllReadyH.cons rfl (fun K hK => ?_) AllReadyH.nil
      go_simp
      refine (ca.out u _ (by (repeat' (first | (with_reducible exact Below.refl _ _) | (with_reducible assumption) | (with_reducible refine Below.alloc ?_ ?_ _) | (with_reducible refine Below.drew ?_) | (with_reducible refine below_drewN ?_ _) | (with_reducible refine Below.setCell ?_ ?_ _) | (with_reducible refine Below.trans ?_ (Below.mono (by assumption) ?_)) | (first | omega | (simp only [World.size_alloc, World.size_setCell, World.size_drew]; omega) | (simp; omega) | (simp; done)))))).mono ?_; rintro e w2 ⟨A1, c1, rfl, hat1, hb1⟩
      refine hK.out _ _ ?s6 (fun hHeld6 => ?_)
      case s6 => ((try dsimp only); (first | go_keep | (obtain ⟨hq, _⟩ := bcell ‹Below _ _ _›; (repeat' apply And.intro) <;> (rw [hq _ _ (by first | assumption | omega | (simp; done) | (simp; omega) | (simp; assumption))] <;> (first | assumption | (simp [*]; done))))))
      clear hK K hHeld
      have hHeld := hHeld6; clear hHeld6
      try simp only [Act.put, List.setIfInBounds_toArray, List.set_cons_zero, List.set_cons_succ]
      refine wpAnyH_take_d (i := 5) (d := some 31) (v := ?v7) rfl rfl (by kernel_rfl) (by kernel_rfl) (by kernel_rfl) (fun _ _ _ h => h) (Or.inl ⟨by kernel_rfl, ?y7⟩) (by assumption) ?_
      case y7 => (intro w' hSw; (try dsimp only at hSw); go_simp; try with_reducible rfl)
      try simp only [Act.put, List.setIfInBounds_toArray, List.set_cons_zero, List.set_cons_succ]
      refine wpAnyH_done (by kernel_rfl) ?_ _
      refine NoPanic.normal ?_
      clear hHeld k00 k01 hq0
      obtain ⟨w0, Hw0⟩ : ∃ v, Hid (v = wr.drew) := ⟨_, rfl⟩
      have hb0 : Below wr.heap.size wr w0 := by rw [Hw0.out]; exact Below.drew (Below.refl _ _)
      have hw0s : w0.heap.size = wr.heap.size := by rw [Hw0.out]; rfl
      rw [← Hw0.out] at hat1 hb1
      clear Hw0
      have HO1 : Hid (Rd2 w2 b gf A1 _) := ⟨own_rdO hat1 (show b < w0.heap.size by omega), own_rdO hat1 (show gf < w0.heap.size by have := HF.out.lt; omega)⟩
      have hb2 : Below wr.heap.size wr w2 := hb0.trans (hb1.mono (by omega))
      have hb2s := hb2.size
      have HK2 := Lib.hid (HK.out.below hb2 hwl)
      have HF2 := Lib.hid (HF.out.below hb2 HF.out.lt)
      have HQ2 := Lib.hid (HQr.out.below hb2 (Nat.le_refl _))
      have HQs2 : Hid (Q0 ≤ w2.heap.size) := Nat.le_trans HQs.out hb2s
      have HB2 := Lib.hid (HBel.out.trans (hb2.mono HBel.out.size))
      have HBf2 := Lib.hid HBf.out.pop
      obtain ⟨X, HX⟩ : ∃ X, Hid (atL es (u : Int) = X) := ⟨_, rfl⟩
      obtain ⟨q, Hq⟩ : ∃ q, Hid (X.length = q) := ⟨_, rfl⟩
      have hql : q ≤ 60 := by have := atL_len es (u : Int); rw [HX.out, Hq.out, HL.out] at this; omega
      simp only [HX.out, Hq.out] at HO1 hat1 ⊢
      clear hat1 hb1 hb0 hb2 HK HF HQr HBel hbelr hw0s hb2s hwl hbl
      go_wp2_with fail
      go_loopw [8, 32] (fun qv iv wx => ∃ (k t : Nat) (far2 : List Int) (wait2 : List Nat) (bq oq c2 : Nat), k ≤ q ∧ iv = .int .i64 k ∧ qv = .slice (some ⟨bq, oq, none⟩) (wait2.length + 1) c2 ∧ Hid (atTo es (u : Int) t = X.take k ∧ t ≤ L) ∧ Hid (Bfs es (pS out) N s far2 wait2 (some (u, t))) ∧ Hid (wait2.length ≤ cntP far2 ∧ 2 * (N - cntP far2) + wait2.length ≤ 2 * (N - cntP far) + m ∧ cntP far ≤ cntP far2) ∧ Hid (Blk wx w.heap.size 32 #[.int .i64 (N : Int), .slice A L c]) ∧ Hid (Blk wx gf 2 (cI far2).toArray) ∧ Hid (OwnQ wx Q0 (some ⟨bq, oq, none⟩) (wait2.length + 1) c2 ((u : Int) :: nI wait2)) ∧ Hid (Rd2 wx bq gf A1 X) ∧ Hid (Q0 ≤ bq ∧ Q0 ≤ wx.heap.size) ∧ Hid (Below w.heap.size w wx)) (fun _ iv _ => q - (intOf iv).toNat)
      case atStart => exact ⟨0, 0, far, r, b, off, cq, Nat.zero_le _, rfl, by rw [Hm.out], ⟨rfl, Nat.zero_le _⟩, HBf2, ⟨by have := Hwl.out; have := Hm.out; omega, by have := Hm.out; omega, Nat.le_refl _⟩, HK2, HF2, by rw [Hm.out]; exact HQ2, HO1, ⟨HbQ.out, HQs2.out⟩, HB2⟩
      case round =>
        clear HK2 HF2 HQ2 HB2 HBf2 HBf HO1 HQs HQs2 HbQ
        obtain ⟨k, t, far2, wait2, bq, oq, c2, hk, rfl, rfl, Hat, HBf, Hcn, HK, HF, HQr, HO1, HbQ, HBel⟩ := hrel
        by_cases hlt : k < q
        · obtain ⟨i, hti, hiL, hXi, hon, hfree, hat2⟩ := at_step (es := es) (v := (u : Int)) (q := k) (L - t) t (by have := Hat.out.2; rw [HL.out]; omega) (by rw [HX.out]; exact Hat.out.1) (by rw [HX.out, Hq.out]; exact hlt)
          rw [HX.out] at hXi hat2
          obtain ⟨x, y, v, hexy, hx, hy, hv, hsum, hends⟩ := at_ends Hin.out hiL hon
          have Hfree := Lib.hid hfree
          have Hends := Lib.hid hends
          have Hat2 := Lib.hid hat2
          have HiL := Lib.hid hiL
          have hiL2 : i < L := by rw [← HL.out]; exact hiL
          obtain ⟨bA, oA, rfl, hA1, hA2, hA3⟩ := rdO_pos HO1.out.1 (by rw [Hq.out]; omega)
          have hck := hA3 k (by rw [Hq.out]; exact hlt)
          rw [hXi] at hck
          obtain ⟨bE, oE, rfl, hE1, hE2⟩ := (Hre.out _ HBel.out).pos (by rw [HL.out]; omega)
          obtain ⟨hc0, hc1⟩ := hE2 i hiL
          rw [hexy] at hc0 hc1
          dsimp only at hc0 hc1
          obtain ⟨bq', oq', eq', hq0, hbl, hcq, hq1, hq2⟩ := HQr.out.pop
          injection eq' with eq'
          injection eq' with e1 e2 _
          subst e1; subst e2
          clear hfree hends hat2 hA2 hA3 hE2 hq1 hq2 hon hXi hexy hiL
          have k00 := HK.out.cellAt 0 _ rfl
          have k01 := HK.out.cellAt 1 _ rfl
          have hwl := HK.out.lt
          obtain ⟨ek, ek2, ek3⟩ := idxF k q hlt
          obtain ⟨ei, ei2, ei3⟩ := idxF i L hiL2
          obtain ⟨ev, ev2, ev3⟩ := idxF v N hv
          have co := Lib.hid fun W => other_b x y u W v (Lib.hid hsum) (by omega) (by omega) (by omega)
          have hn2 : (0 : Int) < (wait2.length : Int) + 1 := by omega
          obtain ⟨qb, Hqb⟩ : ∃ qb, Hid (out.testBit i = qb) := ⟨_, rfl⟩
          have ch := Lib.hid fun W => has_b i out W qb Hqb (by omega) Hout.out
          simp only [HO.out] at ch
          go_wp2
          refine wp_region_noPanic ?_
          refine wp_region_held_drew (S := (fun w' => w'.cell? ⟨w.heap.size, 0, none⟩ = some (.int .i64 (N : Int)) ∧ w'.cell? ⟨w.heap.size, 1, none⟩ = some (.slice (some ⟨bE, oE, none⟩) L c) ∧ w'.cell? ⟨bE, oE + i * 2, none⟩ = some (.int .i64 (x : Int)) ∧ w'.cell? ⟨bE, oE + i * 2 + 1, none⟩ = some (.int .i64 (y : Int)) ∧ w'.cell? ⟨bq, oq, none⟩ = some (.int .i64 (u : Int)))) (by kernel_rfl) ?_ (fun hHeld => ?_)
          · (try dsimp only); (first | go_keep | (obtain ⟨hq, _⟩ := bcell ‹Below _ _ _›; (repeat' apply And.intro) <;> (rw [hq _ _ (by first | assumption | omega | (simp; done) | (simp; omega) | (simp; assumption))] <;> (first | assumption | (simp [*]; done)))))
          refine wpAnyH_take_d (i := 0) (d := some 36) (v := ?v8) rfl rfl (by kernel_rfl) (by kernel_rfl) (by kernel_rfl) (fun _ _ _ h => h) (Or.inl ⟨by kernel_rfl, ?y8⟩) (by assumption) ?_
          case y8 => (intro w' hSw; (try dsimp only at hSw); go_simp; try with_reducible rfl)
          try simp only [Act.put, List.setIfInBounds_toArray, List.set_cons_zero, List.set_cons_succ]
          refine wpAnyH_take_d (i := 1) (d := some 37) (v := ?v9) rfl rfl (by kernel_rfl) (by kernel_rfl) (by kernel_rfl) (fun _ _ _ h => h) (Or.inl ⟨by kernel_rfl, ?y9⟩) (by assumption) ?_
          case y9 => (intro w' hSw; (try dsimp only at hSw); go_simp; try with_reducible rfl)
          try simp only [Act.put, List.setIfInBounds_toArray, List.set_cons_zero, List.set_cons_succ]
          refine wpAnyH_take_d (i := 2) (d := some 38) (v := ?v10) rfl rfl (by kernel_rfl) (by kernel_rfl) (by kernel_rfl) (fun _ _ _ h => h) (Or.inl ⟨by kernel_rfl, ?y10⟩) (by assumption) ?_
          case y10 => (intro w' hSw; (try dsimp only at hSw); go_simp; try with_reducible rfl)
          try simp only [Act.put, List.setIfInBounds_toArray, List.set_cons_zero, List.set_cons_succ]
          refine wpAnyH_take_d (i := 3) (d := some 39) (v := ?v11) rfl rfl (by kernel_rfl) (by kernel_rfl) (by kernel_rfl) (fun _ _ _ h => h) (Or.inl ⟨by kernel_rfl, ?y11⟩) (by assumption) ?_
          case y11 => (intro w' hSw; (try dsimp only at hSw); go_simp; try with_reducible rfl)
          try simp only [Act.put, List.setIfInBounds_toArray, List.set_cons_zero, List.set_cons_succ]
          refine wpAnyH_take_d (i := 4) (d := some 40) (v := ?v12) rfl rfl (by kernel_rfl) (by kernel_rfl) (by kernel_rfl) (fun _ _ _ h => h) (Or.inl ⟨by kernel_rfl, ?y12⟩) (by assumption) ?_
          case y12 => (intro w' hSw; (try dsimp only at hSw); go_simp; try with_reducible rfl)
          try simp only [Act.put, List.setIfInBounds_toArray, List.set_cons_zero, List.set_cons_succ]
          refine wpAnyH_take_d (i := 5) (d := some 41) (v := ?v13) rfl rfl (by kernel_rfl) (by kernel_rfl) (by kernel_rfl) (fun _ _ _ h => h) (Or.inl ⟨by kernel_rfl, ?y13⟩) (by assumption) ?_
          case y13 => (intro w' hSw; (try dsimp only at hSw); go_simp; try with_reducible rfl)
          try simp only [Act.put, List.setIfInBounds_toArray, List.set_cons_zero, List.set_cons_succ]
          refine wpAnyH_take_d (i := 6) (d := some 42) (v := ?v14) rfl rfl (by kernel_rfl) (by kernel_rfl) (by kernel_rfl) (fun _ _ _ h => h) (Or.inl ⟨by kernel_rfl, ?y14⟩) (by assumption) ?_
          case y14 => (intro w' hSw; (try dsimp only at hSw); go_simp; try with_reducible rfl)
          try simp only [Act.put, List.setIfInBounds_toArray, List.set_cons_zero, List.set_cons_succ]
          refine wpAnyH_take_d (i := 7) (d := some 43) (v := ?v15) rfl rfl (by kernel_rfl) (by kernel_rfl) (by kernel_rfl) (fun _ _ _ h => h) (Or.inl ⟨by kernel_rfl, ?y15⟩) (by assumption) ?_
          case y15 => (intro w' hSw; (try dsimp only at hSw); go_simp; try with_reducible rfl)
          try simp only [Act.put, List.setIfInBounds_toArray, List.set_cons_zero, List.set_cons_succ]
          refine wpAnyH_ready (rs := [8]) (by kernel_rfl) (by simp) ?_
          refine AllReadyH.cons rfl (fun K hK => ?_) AllReadyH.nil
          go_simp
          refine (co.out _).mono ?_; rintro e w3 ⟨rfl, hb3⟩
          refine hK.out _ _ ?s16 (fun hHeld16 => ?_)
          case s16 => ((try dsimp only); (first | go_keep | (obtain ⟨hq, _⟩ := bcell ‹Below _ _ _›; (repeat' apply And.intro) <;> (rw [hq _ _ (by first | assumption | omega | (simp; done) | (simp; omega) | (simp; assumption))] <;> (first | assumption | (simp [*]; done))))))
          clear hK K hHeld
          have hHeld := hHeld16; clear hHeld16
          try simp only [Act.put, List.setIfInBounds_toArray, List.set_cons_zero, List.set_cons_succ]
          refine wpAnyH_take_d (i := 9) (d := some 11) (v := ?v17) rfl rfl (by kernel_rfl) (by kernel_rfl) (by kernel_rfl) (fun _ _ _ h => h) (Or.inl ⟨by kernel_rfl, ?y17⟩) (by assumption) ?_
          case y17 => (intro w' hSw; (try dsimp only at hSw); go_simp; try with_reducible rfl)
          try simp only [Act.put, List.setIfInBounds_toArray, List.set_cons_zero, List.set_cons_succ]
          refine wpAnyH_done (by kernel_rfl) ?_ _
          refine NoPanic.normal ?_
          clear hHeld k00 k01 hck hc0 hc1 hq0
          obtain ⟨wd, Hwd⟩ : ∃ v, Hid (v = wr.drew) := ⟨_, rfl⟩
          have hbd : Below wr.heap.size wr wd := by rw [Hwd.out]; exact Below.drew (Below.refl _ _)
          have hwds : wd.heap.size = wr.heap.size := by rw [Hwd.out]; rfl
          rw [← Hwd.out] at hb3
          have hb3' : Below wr.heap.size wr w3 := hbd.trans (hb3.mono (by omega))
          have HK3 := Lib.hid (HK.out.below hb3' HK.out.lt)
          have HF3 := Lib.hid (HF.out.below hb3' HF.out.lt)
          have HQ3 := Lib.hid (HQr.out.below hb3' (Nat.le_refl _))
          have HO3 : Hid (Rd2 w3 bq gf (some ⟨bA, oA, none⟩) X) := HO1.out.below hb3'
          have HB3 := Lib.hid (HBel.out.trans (hb3'.mono HBel.out.size))
          have HQ3s : Hid (Q0 ≤ w3.heap.size) := Nat.le_trans HbQ.out.2 hb3'.size
          have fv := blk_cell HF3.out (j := v) (by rw [HBf.out.len]; exact hv)
          obtain ⟨fx, Hfx⟩ : ∃ fx, Hid (far2.getD v 0 = fx) := ⟨_, rfl⟩
          rw [Hfx.out] at fv
          clear HK HF HQr HO1 HBel hb3' hb3 hbd hwds hbl hE1 hA1
          by_cases hn : fx < 0
          · go_wp2_with fail
            refine (ch.out _).mono ?_
            rintro e w4 ⟨rfl, rfl⟩
            cases qb
            · have hq3 : w3.cell? ⟨bq, oq, none⟩ = some (.int .i64 (u : Int)) := by
                obtain ⟨b9, o9, e9, h9, _⟩ := HQ3.out.pop
                injection e9 with e9; injection e9 with e9 e10 _
                subst e9; subst e10
                exact h9
              have fu := blk_cell HF3.out (j := u) (by rw [HBf.out.len]; exact hu)
              have hub := HBf.out.bound u hu
              have hup := (HBf.out.hd u t rfl).2.1
              have hcN : cntP far2 ≤ N := by have := cntP_le far2; rw [HBf.out.len] at this; exact this
              obtain ⟨y2, Hy2⟩ : ∃ y2, Hid (far2.getD u 0 = y2) := ⟨_, rfl⟩
              rw [Hy2.out] at fu hub hup
              obtain ⟨z2, Hz2⟩ : ∃ z2, Hid (y2 + 1 = z2) := ⟨_, rfl⟩
              have wz : wrap64 (y2 + 1) = z2 := by rw [wrap64_small (by omega) (by omega)]; exact Hz2.out
              have fz := HF3.out.frozen v
              have Hs : Hid (Bfs es (pS out) N s (far2.set v z2) (wait2 ++ [v]) (some (u, i + 1))) := by
                have h9 := HBf.out.step_new HiL.out Hfree.out Hends.out hv (by rw [Hfx.out]; exact hn) (by simp [pS, Hqb.out])
                rw [Hy2.out, Hz2.out] at h9
                exact h9
              have Hc9 : Hid (cntP (far2.set v z2) = cntP far2 + 1) := cntP_set (by rw [HBf.out.len]; exact hv) (by rw [Hfx.out]; exact hn) (by have := Hz2.out; omega)
              have Hc8 : Hid (cntP far2 + 1 ≤ N) := by
                show _ ≤ _
                rw [← Hc9.out]; have := cntP_le (far2.set v z2); rw [Hs.out.len] at this; exact this
              have HF4 := Lib.hid (blk_set HF3.out v z2)
              have HK4 := Lib.hid (HK3.out.far (p := ⟨gf, v, none⟩) (by show w.heap.size ≠ gf; omega) (.int .i64 z2))
              have HQ4 := Lib.hid (HQ3.out.far (p := ⟨gf, v, none⟩) hQf (.int .i64 z2))
              have HO4 := Lib.hid (HO3.out.set2 v (.int .i64 z2))
              have HB4 := Lib.hid (HB3.out.setCell (p := ⟨gf, v, none⟩) (by show w.heap.size ≤ gf; omega) (.int .i64 z2))
              have hs4 : (w3.setCell ⟨gf, v, none⟩ (.int .i64 z2)).heap.size = w3.heap.size := by simp [World.setCell]
              have HF5 : Hid (Blk ((w3.setCell ⟨gf, v, none⟩ (.int .i64 z2)).alloc (.cells #[.int .i64 (v : Int)] 2)) gf 2 _) := HF4.out.alloc _
              have HK5 : Hid (Blk ((w3.setCell ⟨gf, v, none⟩ (.int .i64 z2)).alloc (.cells #[.int .i64 (v : Int)] 2)) w.heap.size 32 _) := HK4.out.alloc _
              have hab : Below (w3.setCell ⟨gf, v, none⟩ (.int .i64 z2)).heap.size (w3.setCell ⟨gf, v, none⟩ (.int .i64 z2)) ((w3.setCell ⟨gf, v, none⟩ (.int .i64 z2)).alloc (.cells #[.int .i64 (v : Int)] 2)) := (Below.refl _ _).alloc (Nat.le_refl _) _
              have HQ5 := Lib.hid (HQ4.out.below hab (Nat.le_refl _))
              have HO5 := Lib.hid (HO4.out.below hab)
              have HB5 : Hid (Below w.heap.size w ((w3.setCell ⟨gf, v, none⟩ (.int .i64 z2)).alloc (.cells #[.int .i64 (v : Int)] 2))) := HB4.out.trans (hab.mono HB4.out.size)
              have hcv : ((w3.setCell ⟨gf, v, none⟩ (.int .i64 z2)).alloc (.cells #[.int .i64 (v : Int)] 2)).cell? ⟨w3.heap.size, 0, none⟩ = some (.int .i64 (v : Int)) := by
                rw [← hs4]
                exact (Blk.new _ 2 #[.int .i64 (v : Int)]).cellAt 0 _ rfl
              have Hcv := Lib.hid hcv
              have HS5 : Hid (Q0 ≤ ((w3.setCell ⟨gf, v, none⟩ (.int .i64 z2)).alloc (.cells #[.int .i64 (v : Int)] 2)).heap.size) := by
                show _ ≤ _
                rw [World.size_alloc, hs4]; exact Nat.le_succ_of_le HQ3s.out
              have Hwn : Hid (wait2.length + 1 ≤ 100000) := by
                show _ ≤ _
                have := Hcn.out.1; omega
              clear hub hup hcN hcv hab hs4 HF4 HK4 HQ4 HO4 HB4
              go_wp2_with (first
                | (at_builtin; refine wpList_appendQ rfl rfl Q0 _ (wait2.length + 1) c2 _ rfl HQ5.out ⟨w3.heap.size, 0, none⟩ 1 (v : Int) rfl Hcv.out Hwn.out HS5.out ?_))
              intro bn on cn w5 hQ6 hfr hsm1 hsm2
              have HF6 := Lib.hid (HF5.out.below (hfr Q0 _ (Nat.le_refl _) (Below.refl _ _)) hQf)
              have HK6 := Lib.hid (HK5.out.below (hfr Q0 _ (Nat.le_refl _) (Below.refl _ _)) (by omega))
              have HO6 := Lib.hid (HO5.out.moved hsm1 (by simpa [World.setCell] using hsm2))
              have HB6 := Lib.hid (hfr w.heap.size w (by omega) HB5.out)
              have HS6 : Hid (Q0 ≤ bn ∧ Q0 ≤ w5.heap.size) := by
                obtain ⟨_, _, b9, o9, c9, e9, h9, h10, _⟩ := hQ6
                injection e9 with e9; injection e9 with e9 _ _
                subst e9
                exact ⟨h9, Nat.le_trans h9 (Nat.le_of_lt h10.lt)⟩
              have HQ6 := Lib.hid hQ6
              clear hQ6 hfr hsm1 hsm2 fu fz hq3
              go_wp2
              exact ⟨⟨k + 1, i + 1, far2.set v z2, wait2 ++ [v], bn, on, cn, by omega, by go_num, by simp, ⟨Hat2.out, by omega⟩, Hs, ⟨by have := Hcn.out; have := Hc9.out; simp; omega, by have := Hcn.out; have := Hc9.out; have := Hc8.out; simp; omega, by have := Hcn.out; have := Hc9.out; omega⟩, HK6, HF6, by { show OwnQ _ _ _ _ _ _; have h9 := HQ6.out; rw [nI_snoc, List.length_append]; exact h9 }, HO6, HS6, HB6⟩, by simp [intOf]; omega⟩
            · have Hs : Hid (Bfs es (pS out) N s far2 wait2 (some (u, i + 1))) := HBf.out.step_old Hfree.out Hends.out (fun h => by simp [pS, Hqb.out] at h)
              go_wp2
              exact ⟨⟨k + 1, i + 1, far2, wait2, bq, oq, c2, by omega, by go_num, rfl, ⟨Hat2.out, by omega⟩, Hs, Hcn, HK3, HF3, HQ3, HO3, ⟨HbQ.out.1, HQ3s.out⟩, HB3⟩, by simp [intOf]; omega⟩
          · have Hs : Hid (Bfs es (pS out) N s far2 wait2 (some (u, i + 1))) := HBf.out.step_old Hfree.out Hends.out (fun _ => by rw [Hfx.out]; omega)
            go_wp2
            exact ⟨⟨k + 1, i + 1, far2, wait2, bq, oq, c2, by omega, by go_num, rfl, ⟨Hat2.out, by omega⟩, Hs, Hcn, HK3, HF3, HQ3, HO3, ⟨HbQ.out.1, HQ3s.out⟩, HB3⟩, by simp [intOf]; omega⟩
        · obtain rfl : q = k := by omega
          have hfree := at_end (es := es) (v := (u : Int)) (q := q) (m := t) (by rw [HX.out]; exact Hat.out.1) (by rw [HX.out, Hq.out]; exact Nat.le_refl _)
          have Hf : Hid (Bfs es (pS out) N s far2 wait2 none) := by
            have h1 := HBf.out.old es.length fun j h1 h2 h3 h4 v2 h5 => by
              have h7 : onB (es.getD j (0, 0)) (u : Int) = true := by
                rw [onB_iff]
                rcases h5 with e2 | e2 <;> rw [e2]
                · exact .inl rfl
                · exact .inr rfl
              rw [hfree j h1 h3] at h7
              cases h7
            exact h1.fin
          clear hfree
          obtain ⟨bq', oq', eq', hq0, hbl, hcq, hq1, hq2⟩ := HQr.out.pop
          injection eq' with eq'
          injection eq' with e1 e2 _
          subst e1; subst e2
          have Hq1 := Lib.hid hq1
          have Hq2 := Lib.hid hq2
          clear hq0 hq1 hq2 hbl
          have hn1 : (1 : Int) ≤ (wait2.length : Int) + 1 := by omega
          go_wp2
          have Hcw2 : Hid (cntW wr gf N = cntP far2) := cntW_blk HF.out HBf.out.len
          refine ⟨⟨far2, wait2, _, c2 - 1, rfl, Hf, Hcn.out.1, HK, HF, ?_, HbQ.out.2, HBel⟩, ?_⟩
          · show OwnQ _ _ _ _ _ _
            by_cases e : c2 = 1
            · subst e; rw [if_pos rfl]; exact Hq2.out rfl
            · rw [if_neg e]; exact Hq1.out
          · rw [Hcw2.out, Hcw.out]
            have := Hcn.out.2.1
            simp only [lenS]
            omega
    · have h0 : wait = [] := List.eq_nil_of_length_eq_zero (by omega)
      subst h0
      go_wp2
      go_ret
      refine ⟨gf, rfl, far, ⟨HBf.out.len, fun u hu => HBf.out.end_ Hin.out hs u hu⟩, ?_, HBel.out⟩
      exact own_mono (own_blk HF.out (by rw [length_cI, HBf.out.len]; omega) (by unfold maxLen; omega)) (by omega)
end Go.Proofs.Ytigdfcigoejjjaa
