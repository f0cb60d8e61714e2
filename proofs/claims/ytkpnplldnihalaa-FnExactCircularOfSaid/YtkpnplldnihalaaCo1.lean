/- The reference's l08Circular: the walk. -/
import Derived.Test.YtkpnplldnihalaaLp5
import Derived.Test.YtkpnplldnihalaaCi4
import Derived.Test.YtkpnplldnihalaaAp1
namespace Go.Proofs.Ytkpnplldnihalaa
open Go.RowKit
set_option linter.unusedSimpArgs false
set_option linter.unusedVariables false
set_option maxRecDepth 20000

/-- The first j lesser edges do not clash with x at edge i. -/
def fitC (es : List (Int × Int)) (k d : Int) (pre : List Int) (i : Nat) (x : Int) (j : Nat) : Bool := (List.range j).all fun n => !nearAre es i n || apartB k d x (pre.getD n 0)
theorem fitC_next (es : List (Int × Int)) (k d : Int) (pre : List Int) (i : Nat) (x : Int) (j : Nat) : fitC es k d pre i x (j + 1) = (fitC es k d pre i x j && (!nearAre es i j || apartB k d x (pre.getD j 0))) := by
  simp [fitC, List.range_succ, List.all_append]
theorem fitC_false {es : List (Int × Int)} {k d : Int} {pre : List Int} {i : Nat} {x : Int} {j n : Nat} (hj : j ≤ n) (h : fitC es k d pre i x j = false) : fitC es k d pre i x n = false := by
  rw [fitC, List.all_eq_false] at h ⊢
  obtain ⟨a, ha, hb⟩ := h
  exact ⟨a, by simp at ha ⊢; omega, hb⟩
theorem fitC_fits {es : List (Int × Int)} {k d : Int} {pre : List Int} {x : Int} : fitC es k d pre pre.length x pre.length = fitsB (nearAre es) (fun x y => !apartB k d x y) pre x := by
  rw [Bool.eq_iff_iff]
  simp only [fitC, fitsB, List.all_eq_true, Bool.not_eq_true', List.any_eq_false]
  constructor
  · intro h a ha
    obtain ⟨n, rfl, hn, hm⟩ := mem_nbr ha
    have := h n (by simpa using hn)
    rw [hm] at this
    rw [Int.toNat_natCast]
    simpa using this
  · intro h n hn
    have hn' : n < pre.length := by simpa using hn
    cases hm : nearAre es pre.length n
    · rfl
    · have := h (n : Int) (by simp only [nbr, nbrTo, List.mem_map, List.mem_filter, List.mem_range]; exact ⟨n, ⟨hn', hm⟩, rfl⟩)
      rw [Int.toNat_natCast] at this
      simpa using this

set_option maxHeartbeats 8000000 in
theorem circ_b (n : Int) (A : Option Addr) (c T : Nat) (es : List (Int × Int)) (k d : Int) (w0 : World) (hkd : Hid (circB k d = true)) (hT : Hid (es.length = T)) (hT2 : T ≤ 1000) (hre : Hid (∀ W, Below w0.heap.size w0 W → RdE W A es)) :
    ∀ (r i b o cl : Nat) (pre : List Int) (W : World), i + r = T → Hid (pre.length = i) → Hid (FrI W w0.heap.size (some ⟨b, o, none⟩) pre) → Hid (∀ j, j < i → 0 ≤ pre.getD j 0 ∧ pre.getD j 0 < k) → Hid (Below w0.heap.size w0 W) →
      Calls Try.prog 81 #[.agg #[.int .i64 n, .slice A T c], .int .i64 k, .int .i64 d, .slice (some ⟨b, o, none⟩) i cl] W fun e w' => RetI w' w0.heap.size e ((fillO (nearAre es) (fun x y => !apartB k d x y) (candC k) r pre).getD []) (.bool (fillO (nearAre es) (fun x y => !apartB k d x y) (candC k) r pre).isSome) ∧ Below W.heap.size W w' := by
  obtain ⟨i0, hi0, hz0, hz1, hz2⟩ := info_parts infoI
  obtain ⟨hk2, hk14, hd1, hd7⟩ := circB_bd hkd.out
  intro r
  induction r with
  | zero =>
    intro i b o cl pre W hi hp hrd hin hW
    obtain rfl : i = T := by omega
    have Hb : Hid (Below W.heap.size W (W.alloc (.cells #[.int .i64 n, .slice A i c] 30))) := Below.alloc (Below.refl _ _) (Nat.le_refl _) _
    clear hre hin
    go_enter Try.func81, Try.ntmps81
    go_wp2
    go_ret2
    exact ⟨RetI.mk (hrd.out.below Hb.out) hp.out rfl, Hb.out⟩
  | succ r ih =>
    intro i b o cl pre W hi hp hrd hin hW
    have hiT : i < T := by omega
    have m1 : ((i : Int) == (T : Int)) = false := by simp; omega
    have Hcell : Hid (∀ W', Below W.heap.size W W' → ∀ j, j < i → W'.cell? ⟨b, o + j, none⟩ = some (.int .i64 (pre.getD j 0))) := fun W' hW' j hj => by
      obtain ⟨b2, o2, e, hb, hc⟩ := (hrd.out.rd.below hW').pos (by rw [hp.out]; omega)
      injection e with e; injection e with e1 e2 _; subst e1; subst e2
      exact hc j (by rw [hp.out]; exact hj)
    obtain ⟨f, Hf⟩ : ∃ f : Nat → Option (List Int), Hid (f = fun x : Nat => if fitsB (nearAre es) (fun x y => !apartB k d x y) pre (x : Int) = true then fillO (nearAre es) (fun x y => !apartB k d x y) (candC k) r (pre ++ [(x : Int)]) else none) := ⟨_, rfl⟩
    obtain ⟨cc, Hcc⟩ : ∃ cc, Hid (candC k pre = cc) := ⟨_, rfl⟩
    have Hcc2 : Hid ((i = 0 → cc = 1) ∧ (0 < i → (cc : Int) = k)) := by
      show _ ∧ _
      rw [← Hcc.out, candC, hp.out]
      constructor
      · intro e; rw [if_pos e]
      · intro e; rw [if_neg (by omega)]; omega
    have hcc15 : (cc : Int) ≤ k := by have := Hcc2.out; omega
    obtain ⟨res, Hres⟩ : ∃ res, Hid (fillO (nearAre es) (fun x y => !apartB k d x y) (candC k) (r + 1) pre = res) := ⟨_, rfl⟩
    have Hres2 : Hid (res = (List.range cc).findSome? f) := by show _ = _; rw [← Hres.out, fillO, Hcc.out, Hf.out]
    rw [Hres.out]
    clear Hres
    go_enter Try.func81, Try.ntmps81
    go_wp2
    go_loopw [11] (fun s wr => ∃ x : Nat, x ≤ cc ∧ (i = 0 → x = 0) ∧ s = .int .i64 x ∧ Hid ((List.range x).findSome? f = none) ∧ Hid (Blk wr W.heap.size 30 #[.int .i64 n, .slice A T c]) ∧ Hid (Below W.heap.size W wr)) (fun s _ => cc - (intOf s).toNat)
    case atStart => exact ⟨0, Nat.zero_le _, fun _ => rfl, rfl, rfl, Blk.new _ _ _, (by show Below _ _ _; (repeat' (first | (with_reducible exact Below.refl _ _) | (with_reducible assumption) | (with_reducible refine Below.alloc ?_ ?_ _) | (with_reducible refine Below.drew ?_) | (with_reducible refine below_drewN ?_ _) | (with_reducible refine Below.setCell ?_ ?_ _) | (with_reducible refine Below.trans ?_ (Below.mono (by assumption) ?_)) | (first | omega | (simp only [World.size_alloc, World.size_setCell, World.size_drew]; omega) | (simp; omega) | (simp; done)))))⟩
    case round =>
      obtain ⟨x, hx, hx0, rfl, Hnone, HK, Hb⟩ := hrel
      by_cases hxc : x < cc
      · have t1 : (x : Int) < k := by omega
        have k0 := HK.out.cellAt 0 _ rfl
        have k1 := HK.out.cellAt 1 _ rfl
        obtain ⟨wo, rfl⟩ : ∃ wo : World, wo = wr := ⟨_, rfl⟩
        go_wp2
        go_loopw [12, 13] (fun fv jv w3 => ∃ m : Nat, m ≤ i ∧ jv = .int .i64 m ∧ fv = .bool (fitC es k d pre i x m) ∧ Hid (Below wo.heap.size wo w3)) (fun _ jv _ => i - (intOf jv).toNat)
        case atStart => exact ⟨0, Nat.zero_le _, rfl, rfl, Below.refl _ _⟩
        case round =>
          clear k0 k1
          obtain ⟨m, hm, rfl, rfl, Hb3⟩ := hrel
          have HB3 : Hid (Below W.heap.size W wr) := Hb.out.trans (Hb3.out.mono Hb.out.size)
          have HK3 : Hid (Blk wr W.heap.size 30 #[.int .i64 n, .slice A T c]) := HK.out.below Hb3.out HK.out.lt
          have k0 := HK3.out.cellAt 0 _ rfl
          have k1 := HK3.out.cellAt 1 _ rfl
          have Hfx : Hid (f x = if fitC es k d pre i x i = true then fillO (nearAre es) (fun x y => !apartB k d x y) (candC k) r (pre ++ [(x : Int)]) else none) := by
            show _ = _
            have h9 := fitC_fits (es := es) (k := k) (d := d) (pre := pre) (x := (x : Int))
            rw [hp.out] at h9
            rw [Hf.out, h9]
          obtain ⟨q, Hq⟩ : ∃ q, Hid (fitC es k d pre i x m = q) := ⟨_, rfl⟩
          have Hnx := Lib.hid (fitC_next es k d pre i x m)
          rw [Hq.out] at Hnx
          rw [Hq.out]
          cases q
          · have hfx : f x = none := by rw [Hfx.out, fitC_false hm Hq.out]; rfl
            have Hfn := Lib.hid hfx; clear hfx
            have hi9 : 0 < i := by
              rcases Nat.eq_zero_or_pos m with e | e
              · subst e; have h9 := Hq.out; simp [fitC] at h9
              · omega
            by_cases hlt2 : m < i
            · go_wp2
              refine ⟨⟨x + 1, by omega, by omega, by go_num, fill_next Hf.out Hnone.out Hfn.out, HK3, HB3⟩, by simp [intOf]; omega⟩
            · obtain rfl : m = i := by omega
              go_wp2
              refine ⟨⟨x + 1, by omega, by omega, by go_num, fill_next Hf.out Hnone.out Hfn.out, HK3, HB3⟩, by simp [intOf]; omega⟩
          · by_cases hlt2 : m < i
            · obtain ⟨q1, Hq1⟩ : ∃ q, Hid (nearAre es i m = q) := ⟨_, rfl⟩
              have cn := l08Near_b n A c es i m wr q1 Hq1 (by rw [hT.out]; exact hiT) (by rw [hT.out]; omega) (by rw [hT.out]; omega) (hre.out wr (hW.out.trans (HB3.out.mono hW.out.size)))
              rw [hT.out] at cn
              rw [Hq1.out] at Hnx
              cases q1
              · go_wp2_with fail
                refine cn.mono ?_
                rintro e w4 ⟨rfl, hb4⟩
                clear cn k0 k1
                go_wp2
                refine ⟨⟨m + 1, by omega, by go_num, ?_, Hb3.out.trans (hb4.mono Hb3.out.size)⟩, by simp [intOf]; omega⟩
                rw [Hnx.out]; rfl
              · have g3 := Hcell.out wr HB3.out m hlt2
                have p := hin.out m hlt2
                obtain ⟨u, Hu⟩ : ∃ u, Hid (pre.getD m 0 = u) := ⟨_, rfl⟩
                rw [Hu.out] at g3 Hnx p
                obtain ⟨q2, Hq2⟩ : ∃ q, Hid (apartB k d x u = q) := ⟨_, rfl⟩
                rw [Hq2.out] at Hnx
                have ca := fun W => l08Apart_b k d x u W q2 Hq2 (by omega) (by omega) (by omega) (by omega)
                go_wp2_with fail
                refine cn.mono ?_
                rintro e w4 ⟨rfl, hb4⟩
                have g4 : w4.cell? ⟨b, o + m, none⟩ = some (.int .i64 u) := (hb4.cell (p := ⟨b, o + m, none⟩) (by
                  rcases hrd.out with h | ⟨b2, o2, e, _, hb, _⟩
                  · exfalso; have := hp.out; rw [h] at this; simp at this; omega
                  · injection e with e; injection e with e1 _ _; subst e1; exact Nat.lt_of_lt_of_le hb HB3.out.size)).trans g3
                clear cn k0 k1 g3 p
                go_wp2_with fail
                refine (ca _).mono ?_
                rintro e w5 ⟨rfl, rfl⟩
                clear ca g4
                go_wp2
                refine ⟨⟨m + 1, by omega, by go_num, ?_, Hb3.out.trans (hb4.mono Hb3.out.size)⟩, by simp [intOf]; omega⟩
                rw [Hnx.out]; rfl
            · obtain rfl : m = i := by omega
              have Hfo : Hid (f x = fillO (nearAre es) (fun x y => !apartB k d x y) (candC k) r (pre ++ [(x : Int)])) := by show _ = _; rw [Hfx.out, Hq.out]; rfl
              obtain ⟨oo, Hoo⟩ : ∃ oo, Hid (fillO (nearAre es) (fun x y => !apartB k d x y) (candC k) r (pre ++ [(x : Int)]) = oo) := ⟨_, rfl⟩
              rw [Hoo.out] at Hfo
              have c1 := fun (W' : World) (hW' : Below W.heap.size W W') => l01Own2_b b o cl pre W' (by rw [hp.out]; omega) (hrd.out.rd.below hW')
              simp only [hp.out] at c1
              have hin5 : Hid (∀ a, a < m + 1 → 0 ≤ (pre ++ [(x : Int)]).getD a 0 ∧ (pre ++ [(x : Int)]).getD a 0 < k) := fun a ha => by
                by_cases e : a = m
                · subst e
                  have g : (pre ++ [(x : Int)]).getD a 0 = x := by rw [← hp.out]; simp [List.getD]
                  rw [g]; omega
                · have := hin.out a (by omega)
                  have g : (pre ++ [(x : Int)]).getD a 0 = pre.getD a 0 := by simp [List.getD, List.getElem?_append_left (show a < pre.length by rw [hp.out]; omega)]
                  rw [g]; exact this
              have ih2 := fun (g5 c5 : Nat) (w5 : World) (Hr5 : Hid (FrI w5 w0.heap.size (some ⟨g5, 0, none⟩) (pre ++ [(x : Int)]))) (Hb5 : Below W.heap.size W w5) =>
                ih (m + 1) g5 0 c5 (pre ++ [(x : Int)]) w5 (by omega) (by show _ = _; simp [hp.out]) Hr5 hin5 (hW.out.trans (Hb5.mono hW.out.size))
              simp only [Hoo.out] at ih2
              have Ih2 := Lib.hid ih2
              have C1 := Lib.hid c1
              have B3 := HB3.out
              have z0 := HK3.out.lt
              have zW := hW.out.size
              clear c1 ih ih2 hin5 Hoo Hq Hnx Hfx
              go_wp2
              refine wp_region_noPanic ?_
              refine wp_region_held_drew (S := (fun w' => w'.cell? ⟨W.heap.size, 0, none⟩ = some (.int .i64 n) ∧ w'.cell? ⟨W.heap.size, 1, none⟩ = some (.slice A T c))) (by kernel_rfl) ?_ (fun hHeld => ?_)
              · (try dsimp only); (first | go_keep | (obtain ⟨hq, _⟩ := bcell ‹Below _ _ _›; (repeat' apply And.intro) <;> (rw [hq _ _ (by first | assumption | omega | (simp; done) | (simp; omega) | (simp; assumption))] <;> (first | assumption | (simp [*]; done)))))
              refine wpAnyH_take_d (i := 0) (d := some 56) (v := ?v1) rfl rfl (by kernel_rfl) (by kernel_rfl) (by kernel_rfl) (fun _ _ _ h => h) (Or.inl ⟨by kernel_rfl, ?y1⟩) (by assumption) ?_
              case y1 => (intro w' hSw; (try dsimp only at hSw); go_simp; try with_reducible rfl)
              try simp only [Act.put, List.setIfInBounds_toArray, List.set_cons_zero, List.set_cons_succ]
              refine wpAnyH_take_d (i := 1) (d := some 57) (v := ?v2) rfl rfl (by kernel_rfl) (by kernel_rfl) (by kernel_rfl) (fun _ _ _ h => h) (Or.inl ⟨by kernel_rfl, ?y2⟩) (by assumption) ?_
              case y2 => (intro w' hSw; (try dsimp only at hSw); go_simp; try with_reducible rfl)
              try simp only [Act.put, List.setIfInBounds_toArray, List.set_cons_zero, List.set_cons_succ]
              refine wpAnyH_take_d (i := 2) (d := some 58) (v := ?v3) rfl rfl (by kernel_rfl) (by kernel_rfl) (by kernel_rfl) (fun _ _ _ h => h) (Or.inl ⟨by kernel_rfl, ?y3⟩) (by assumption) ?_
              case y3 => (intro w' hSw; (try dsimp only at hSw); go_simp; try with_reducible rfl)
              try simp only [Act.put, List.setIfInBounds_toArray, List.set_cons_zero, List.set_cons_succ]
              refine wpAnyH_take_d (i := 3) (d := some 59) (v := ?v4) rfl rfl (by kernel_rfl) (by kernel_rfl) (by kernel_rfl) (fun _ _ _ h => h) (Or.inl ⟨by kernel_rfl, ?y4⟩) (by assumption) ?_
              case y4 => (intro w' hSw; (try dsimp only at hSw); go_simp; try with_reducible rfl)
              try simp only [Act.put, List.setIfInBounds_toArray, List.set_cons_zero, List.set_cons_succ]
              refine wpAnyH_take_d (i := 5) (d := some 61) (v := ?v5) rfl rfl (by kernel_rfl) (by kernel_rfl) (by kernel_rfl) (fun _ _ _ h => h) (Or.inl ⟨by kernel_rfl, ?y5⟩) (by assumption) ?_
              case y5 => (intro w' hSw; (try dsimp only at hSw); go_simp; try with_reducible rfl)
              try simp only [Act.put, List.setIfInBounds_toArray, List.set_cons_zero, List.set_cons_succ]
              refine wpAnyH_ready (rs := [4, 6]) (by kernel_rfl) (by simp) ?_
              refine AllReadyH.cons rfl (fun K hK => ?_) (AllReadyH.cons rfl (fun K hK => ?_) (AllReadyH.nil))
              · go_simp
                refine (C1.out _ (by (repeat' (first | (with_reducible exact Below.refl _ _) | (with_reducible assumption) | (with_reducible refine Below.alloc ?_ ?_ _) | (with_reducible refine Below.drew ?_) | (with_reducible refine below_drewN ?_ _) | (with_reducible refine Below.setCell ?_ ?_ _) | (with_reducible refine Below.trans ?_ (Below.mono (by assumption) ?_)) | (first | omega | (simp only [World.size_alloc, World.size_setCell, World.size_drew]; omega) | (simp; omega) | (simp; done)))))).mono ?_; rintro e w4 ⟨A4, c4, rfl, hown4, hb4⟩; have z4 := hb4.size; (try simp only [World.size_alloc, World.size_setCell, World.size_drew] at z4)
                refine hK.out _ _ ?s6 (fun hHeld6 => ?_)
                case s6 => ((try dsimp only); (first | go_keep | (obtain ⟨hq, _⟩ := bcell ‹Below _ _ _›; (repeat' apply And.intro) <;> (rw [hq _ _ (by first | assumption | omega | (simp; done) | (simp; omega) | (simp; assumption))] <;> (first | assumption | (simp [*]; done))))))
                clear hK K hHeld
                have hHeld := hHeld6; clear hHeld6
                try simp only [Act.put, List.setIfInBounds_toArray, List.set_cons_zero, List.set_cons_succ]
                refine wpAnyH_ready (rs := [6]) (by kernel_rfl) (by simp) ?_
                refine AllReadyH.cons rfl (fun K hK => ?_) AllReadyH.nil
                go_simp
                refine hK.out _ _ ?s7 (fun hHeld7 => ?_)
                case s7 => ((try dsimp only); (first | go_keep | (obtain ⟨hq, _⟩ := bcell ‹Below _ _ _›; (repeat' apply And.intro) <;> (rw [hq _ _ (by first | assumption | omega | (simp; done) | (simp; omega) | (simp; assumption))] <;> (first | assumption | (simp [*]; done))))))
                clear hK K hHeld
                have hHeld := hHeld7; clear hHeld7
                try simp only [Act.put, List.setIfInBounds_toArray, List.set_cons_zero, List.set_cons_succ]
                refine wpAnyH_ready (rs := [7]) (by kernel_rfl) (by simp) ?_
                refine AllReadyH.cons rfl (fun K hK => ?_) AllReadyH.nil
                refine wp_append1 rfl wr.heap.size _ _ pre rfl (own_mono (own_below hown4 (by (repeat' (first | (with_reducible exact Below.refl _ _) | (with_reducible assumption) | (with_reducible refine Below.alloc ?_ ?_ _) | (with_reducible refine Below.drew ?_) | (with_reducible refine below_drewN ?_ _) | (with_reducible refine Below.setCell ?_ ?_ _) | (with_reducible refine Below.trans ?_ (Below.mono (by assumption) ?_)) | (first | omega | (simp only [World.size_alloc, World.size_setCell, World.size_drew]; omega) | (simp; omega) | (simp; done)))))) (by (first | omega | (simp only [World.size_alloc, World.size_setCell, World.size_drew]; omega) | (simp; omega) | (simp; done)))) _ 1 (x : Int) rfl ?cy (by omega) (by (first | omega | (simp only [World.size_alloc, World.size_setCell, World.size_drew]; omega) | (simp; omega) | (simp; done))) ?_
                case cy => first | exact (Blk.new _ _ _).cellAt 0 _ rfl | exact ((Blk.new wr.drew _ _).below hb4 (by simp)).cellAt 0 _ rfl | exact ((Blk.new wr _ _).drew.below hb4 (by simp)).cellAt 0 _ rfl
                intro g5 c5 w5 hown5 hB5
                have hb5 := hB5 wr.heap.size wr (Nat.le_refl _) (by (repeat' (first | (with_reducible exact Below.refl _ _) | (with_reducible assumption) | (with_reducible refine Below.alloc ?_ ?_ _) | (with_reducible refine Below.drew ?_) | (with_reducible refine below_drewN ?_ _) | (with_reducible refine Below.setCell ?_ ?_ _) | (with_reducible refine Below.trans ?_ (Below.mono (by assumption) ?_)) | (first | omega | (simp only [World.size_alloc, World.size_setCell, World.size_drew]; omega) | (simp; omega) | (simp; done)))))
                have z5 := hb5.size
                clear hB5 hown4
                refine hK.out _ _ ?s8 (fun hHeld8 => ?_)
                case s8 => ((try dsimp only); (first | go_keep | (obtain ⟨hq, _⟩ := bcell ‹Below _ _ _›; (repeat' apply And.intro) <;> (rw [hq _ _ (by first | assumption | omega | (simp; done) | (simp; omega) | (simp; assumption))] <;> (first | assumption | (simp [*]; done))))))
                clear hK K hHeld
                have hHeld := hHeld8; clear hHeld8
                try simp only [Act.put, List.setIfInBounds_toArray, List.set_cons_zero, List.set_cons_succ]
                refine wpAnyH_ready (rs := [8]) (by kernel_rfl) (by simp) ?_
                refine AllReadyH.cons rfl (fun K hK => ?_) AllReadyH.nil
                go_simp
                refine (Ih2.out g5 c5 w5 (own_frI (own_mono hown5 (Nat.le_trans zW B3.size))) (B3.trans (hb5.mono B3.size))).mono ?_; rintro e w6 ⟨⟨A6, c6, rfl, hF6⟩, hb6⟩; have z6 := hb6.size; (try simp only [World.size_alloc, World.size_setCell, World.size_drew] at z6)
                refine hK.out _ _ ?s9 (fun hHeld9 => ?_)
                case s9 => ((try dsimp only); (first | go_keep | (obtain ⟨hq, _⟩ := bcell ‹Below _ _ _›; (repeat' apply And.intro) <;> (rw [hq _ _ (by first | assumption | omega | (simp; done) | (simp; omega) | (simp; assumption))] <;> (first | assumption | (simp [*]; done))))))
                clear hK K hHeld
                have hHeld := hHeld9; clear hHeld9
                try simp only [Act.put, List.setIfInBounds_toArray, List.set_cons_zero, List.set_cons_succ]
                refine wpAnyH_take_d (i := 9) (d := some 55) (v := ?v10) rfl rfl (by kernel_rfl) (by kernel_rfl) (by kernel_rfl) (fun _ _ _ h => h) (Or.inl ⟨by kernel_rfl, ?y10⟩) (by assumption) ?_
                case y10 => (intro w' hSw; (try dsimp only at hSw); go_simp; try with_reducible rfl)
                try simp only [Act.put, List.setIfInBounds_toArray, List.set_cons_zero, List.set_cons_succ]
                refine wpAnyH_take_d (i := 10) (d := some 65) (v := ?v11) rfl rfl (by kernel_rfl) (by kernel_rfl) (by kernel_rfl) (fun _ _ _ h => h) (Or.inl ⟨by kernel_rfl, ?y11⟩) (by assumption) ?_
                case y11 => (intro w' hSw; (try dsimp only at hSw); go_simp; try with_reducible rfl)
                try simp only [Act.put, List.setIfInBounds_toArray, List.set_cons_zero, List.set_cons_succ]
                refine wpAnyH_take_d (i := 11) (d := some 66) (v := ?v12) rfl rfl (by kernel_rfl) (by kernel_rfl) (by kernel_rfl) (fun _ _ _ h => h) (Or.inl ⟨by kernel_rfl, ?y12⟩) (by assumption) ?_
                case y12 => (intro w' hSw; (try dsimp only at hSw); go_simp; try with_reducible rfl)
                try simp only [Act.put, List.setIfInBounds_toArray, List.set_cons_zero, List.set_cons_succ]
                refine wpAnyH_take_d (i := 12) (d := some 14) (v := ?v13) rfl rfl (by kernel_rfl) (by kernel_rfl) (by kernel_rfl) (fun _ _ _ h => h) (Or.inl ⟨by kernel_rfl, ?y13⟩) (by assumption) ?_
                case y13 => (intro w' hSw; (try dsimp only at hSw); go_simp; try with_reducible rfl)
                try simp only [Act.put, List.setIfInBounds_toArray, List.set_cons_zero, List.set_cons_succ]
                refine wpAnyH_take_d (i := 13) (d := some 15) (v := ?v14) rfl rfl (by kernel_rfl) (by kernel_rfl) (by kernel_rfl) (fun _ _ _ h => h) (Or.inl ⟨by kernel_rfl, ?y14⟩) (by assumption) ?_
                case y14 => (intro w' hSw; (try dsimp only at hSw); go_simp; try with_reducible rfl)
                try simp only [Act.put, List.setIfInBounds_toArray, List.set_cons_zero, List.set_cons_succ]
                refine wpAnyH_done (by kernel_rfl) ?_ _
                refine NoPanic.normal ?_
                have HB6 : Hid (Below W.heap.size W w6) := (B3.trans (hb5.mono B3.size)).trans (hb6.mono (B3.trans (hb5.mono B3.size)).size)
                have HK6 : Hid (Blk w6 W.heap.size 30 #[.int .i64 n, .slice A T c]) := (HK3.out.below hb5 z0).below hb6 (Nat.lt_of_lt_of_le z0 hb5.size)
                clear hHeld hb5 hown5 hb6 z6 k0 k1 B3 z0
                cases oo with
                | some xs =>
                  have Hff := Lib.hid (fill_found hxc Hnone.out Hfo.out)
                  go_wp2
                  go_ret2
                  rw [Hres2.out, Hff.out]
                  exact ⟨RetI.mk hF6 rfl rfl, HB6.out⟩
                | none =>
                  have HF := Lib.hid (fill_next Hf.out Hnone.out Hfo.out)
                  clear hF6
                  by_cases hi0 : m = 0
                  · obtain rfl : cc = x + 1 := by have := Hcc2.out; omega
                    subst hi0
                    go_wp2
                    go_ret2
                    rw [Hres2.out, HF.out]
                    exact ⟨RetI.none rfl rfl, HB6.out⟩
                  · have hi1 : ((m : Int) == 0) = false := by simp; omega
                    go_wp2
                    refine ⟨⟨x + 1, by omega, by omega, by go_num, HF.out, HK6, HB6⟩, by simp [intOf]; omega⟩
              · go_simp
                refine hK.out _ _ ?s15 (fun hHeld15 => ?_)
                case s15 => ((try dsimp only); (first | go_keep | (obtain ⟨hq, _⟩ := bcell ‹Below _ _ _›; (repeat' apply And.intro) <;> (rw [hq _ _ (by first | assumption | omega | (simp; done) | (simp; omega) | (simp; assumption))] <;> (first | assumption | (simp [*]; done))))))
                clear hK K hHeld
                have hHeld := hHeld15; clear hHeld15
                try simp only [Act.put, List.setIfInBounds_toArray, List.set_cons_zero, List.set_cons_succ]
                refine wpAnyH_ready (rs := [4]) (by kernel_rfl) (by simp) ?_
                refine AllReadyH.cons rfl (fun K hK => ?_) AllReadyH.nil
                go_simp
                refine (C1.out _ (by (repeat' (first | (with_reducible exact Below.refl _ _) | (with_reducible assumption) | (with_reducible refine Below.alloc ?_ ?_ _) | (with_reducible refine Below.drew ?_) | (with_reducible refine below_drewN ?_ _) | (with_reducible refine Below.setCell ?_ ?_ _) | (with_reducible refine Below.trans ?_ (Below.mono (by assumption) ?_)) | (first | omega | (simp only [World.size_alloc, World.size_setCell, World.size_drew]; omega) | (simp; omega) | (simp; done)))))).mono ?_; rintro e w4 ⟨A4, c4, rfl, hown4, hb4⟩; have z4 := hb4.size; (try simp only [World.size_alloc, World.size_setCell, World.size_drew] at z4)
                refine hK.out _ _ ?s16 (fun hHeld16 => ?_)
                case s16 => ((try dsimp only); (first | go_keep | (obtain ⟨hq, _⟩ := bcell ‹Below _ _ _›; (repeat' apply And.intro) <;> (rw [hq _ _ (by first | assumption | omega | (simp; done) | (simp; omega) | (simp; assumption))] <;> (first | assumption | (simp [*]; done))))))
                clear hK K hHeld
                have hHeld := hHeld16; clear hHeld16
                try simp only [Act.put, List.setIfInBounds_toArray, List.set_cons_zero, List.set_cons_succ]
                refine wpAnyH_ready (rs := [7]) (by kernel_rfl) (by simp) ?_
                refine AllReadyH.cons rfl (fun K hK => ?_) AllReadyH.nil
                refine wp_append1 rfl wr.heap.size _ _ pre rfl (own_mono (own_below hown4 (by (repeat' (first | (with_reducible exact Below.refl _ _) | (with_reducible assumption) | (with_reducible refine Below.alloc ?_ ?_ _) | (with_reducible refine Below.drew ?_) | (with_reducible refine below_drewN ?_ _) | (with_reducible refine Below.setCell ?_ ?_ _) | (with_reducible refine Below.trans ?_ (Below.mono (by assumption) ?_)) | (first | omega | (simp only [World.size_alloc, World.size_setCell, World.size_drew]; omega) | (simp; omega) | (simp; done)))))) (by (first | omega | (simp only [World.size_alloc, World.size_setCell, World.size_drew]; omega) | (simp; omega) | (simp; done)))) _ 1 (x : Int) rfl ?cy (by omega) (by (first | omega | (simp only [World.size_alloc, World.size_setCell, World.size_drew]; omega) | (simp; omega) | (simp; done))) ?_
                case cy => first | exact (Blk.new _ _ _).cellAt 0 _ rfl | exact ((Blk.new wr.drew _ _).below hb4 (by simp)).cellAt 0 _ rfl | exact ((Blk.new wr _ _).drew.below hb4 (by simp)).cellAt 0 _ rfl
                intro g5 c5 w5 hown5 hB5
                have hb5 := hB5 wr.heap.size wr (Nat.le_refl _) (by (repeat' (first | (with_reducible exact Below.refl _ _) | (with_reducible assumption) | (with_reducible refine Below.alloc ?_ ?_ _) | (with_reducible refine Below.drew ?_) | (with_reducible refine below_drewN ?_ _) | (with_reducible refine Below.setCell ?_ ?_ _) | (with_reducible refine Below.trans ?_ (Below.mono (by assumption) ?_)) | (first | omega | (simp only [World.size_alloc, World.size_setCell, World.size_drew]; omega) | (simp; omega) | (simp; done)))))
                have z5 := hb5.size
                clear hB5 hown4
                refine hK.out _ _ ?s17 (fun hHeld17 => ?_)
                case s17 => ((try dsimp only); (first | go_keep | (obtain ⟨hq, _⟩ := bcell ‹Below _ _ _›; (repeat' apply And.intro) <;> (rw [hq _ _ (by first | assumption | omega | (simp; done) | (simp; omega) | (simp; assumption))] <;> (first | assumption | (simp [*]; done))))))
                clear hK K hHeld
                have hHeld := hHeld17; clear hHeld17
                try simp only [Act.put, List.setIfInBounds_toArray, List.set_cons_zero, List.set_cons_succ]
                refine wpAnyH_ready (rs := [8]) (by kernel_rfl) (by simp) ?_
                refine AllReadyH.cons rfl (fun K hK => ?_) AllReadyH.nil
                go_simp
                refine (Ih2.out g5 c5 w5 (own_frI (own_mono hown5 (Nat.le_trans zW B3.size))) (B3.trans (hb5.mono B3.size))).mono ?_; rintro e w6 ⟨⟨A6, c6, rfl, hF6⟩, hb6⟩; have z6 := hb6.size; (try simp only [World.size_alloc, World.size_setCell, World.size_drew] at z6)
                refine hK.out _ _ ?s18 (fun hHeld18 => ?_)
                case s18 => ((try dsimp only); (first | go_keep | (obtain ⟨hq, _⟩ := bcell ‹Below _ _ _›; (repeat' apply And.intro) <;> (rw [hq _ _ (by first | assumption | omega | (simp; done) | (simp; omega) | (simp; assumption))] <;> (first | assumption | (simp [*]; done))))))
                clear hK K hHeld
                have hHeld := hHeld18; clear hHeld18
                try simp only [Act.put, List.setIfInBounds_toArray, List.set_cons_zero, List.set_cons_succ]
                refine wpAnyH_take_d (i := 9) (d := some 55) (v := ?v19) rfl rfl (by kernel_rfl) (by kernel_rfl) (by kernel_rfl) (fun _ _ _ h => h) (Or.inl ⟨by kernel_rfl, ?y19⟩) (by assumption) ?_
                case y19 => (intro w' hSw; (try dsimp only at hSw); go_simp; try with_reducible rfl)
                try simp only [Act.put, List.setIfInBounds_toArray, List.set_cons_zero, List.set_cons_succ]
                refine wpAnyH_take_d (i := 10) (d := some 65) (v := ?v20) rfl rfl (by kernel_rfl) (by kernel_rfl) (by kernel_rfl) (fun _ _ _ h => h) (Or.inl ⟨by kernel_rfl, ?y20⟩) (by assumption) ?_
                case y20 => (intro w' hSw; (try dsimp only at hSw); go_simp; try with_reducible rfl)
                try simp only [Act.put, List.setIfInBounds_toArray, List.set_cons_zero, List.set_cons_succ]
                refine wpAnyH_take_d (i := 11) (d := some 66) (v := ?v21) rfl rfl (by kernel_rfl) (by kernel_rfl) (by kernel_rfl) (fun _ _ _ h => h) (Or.inl ⟨by kernel_rfl, ?y21⟩) (by assumption) ?_
                case y21 => (intro w' hSw; (try dsimp only at hSw); go_simp; try with_reducible rfl)
                try simp only [Act.put, List.setIfInBounds_toArray, List.set_cons_zero, List.set_cons_succ]
                refine wpAnyH_take_d (i := 12) (d := some 14) (v := ?v22) rfl rfl (by kernel_rfl) (by kernel_rfl) (by kernel_rfl) (fun _ _ _ h => h) (Or.inl ⟨by kernel_rfl, ?y22⟩) (by assumption) ?_
                case y22 => (intro w' hSw; (try dsimp only at hSw); go_simp; try with_reducible rfl)
                try simp only [Act.put, List.setIfInBounds_toArray, List.set_cons_zero, List.set_cons_succ]
                refine wpAnyH_take_d (i := 13) (d := some 15) (v := ?v23) rfl rfl (by kernel_rfl) (by kernel_rfl) (by kernel_rfl) (fun _ _ _ h => h) (Or.inl ⟨by kernel_rfl, ?y23⟩) (by assumption) ?_
                case y23 => (intro w' hSw; (try dsimp only at hSw); go_simp; try with_reducible rfl)
                try simp only [Act.put, List.setIfInBounds_toArray, List.set_cons_zero, List.set_cons_succ]
                refine wpAnyH_done (by kernel_rfl) ?_ _
                refine NoPanic.normal ?_
                have HB6 : Hid (Below W.heap.size W w6) := (B3.trans (hb5.mono B3.size)).trans (hb6.mono (B3.trans (hb5.mono B3.size)).size)
                have HK6 : Hid (Blk w6 W.heap.size 30 #[.int .i64 n, .slice A T c]) := (HK3.out.below hb5 z0).below hb6 (Nat.lt_of_lt_of_le z0 hb5.size)
                clear hHeld hb5 hown5 hb6 z6 k0 k1 B3 z0
                cases oo with
                | some xs =>
                  have Hff := Lib.hid (fill_found hxc Hnone.out Hfo.out)
                  go_wp2
                  go_ret2
                  rw [Hres2.out, Hff.out]
                  exact ⟨RetI.mk hF6 rfl rfl, HB6.out⟩
                | none =>
                  have HF := Lib.hid (fill_next Hf.out Hnone.out Hfo.out)
                  clear hF6
                  by_cases hi0 : m = 0
                  · obtain rfl : cc = x + 1 := by have := Hcc2.out; omega
                    subst hi0
                    go_wp2
                    go_ret2
                    rw [Hres2.out, HF.out]
                    exact ⟨RetI.none rfl rfl, HB6.out⟩
                  · have hi1 : ((m : Int) == 0) = false := by simp; omega
                    go_wp2
                    refine ⟨⟨x + 1, by omega, by omega, by go_num, HF.out, HK6, HB6⟩, by simp [intOf]; omega⟩
      · obtain rfl : x = cc := by omega
        by_cases t2 : (x : Int) < k
        · exfalso; have := Hcc2.out; omega
        · go_wp2
          go_ret2
          rw [Hres2.out, Hnone.out]
          exact ⟨RetI.none rfl rfl, Hb.out⟩
end Go.Proofs.Ytkpnplldnihalaa
