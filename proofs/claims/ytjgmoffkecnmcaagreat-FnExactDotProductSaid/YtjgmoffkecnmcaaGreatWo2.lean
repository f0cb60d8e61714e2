/- without. No statement of the program is proved here. -/
import Derived.Test.YtjgmoffkecnmcaaGreatWo1
import Derived.Test.YtjgmoffkecnmcaaGreatGo1
import Derived.Test.YtjgmoffkecnmcaaGreatNe1
namespace Go.Proofs.YtjgmoffkecnmcaaGreat
open Go.RowKit
set_option linter.unusedSimpArgs false
set_option linter.unusedVariables false
set_option maxRecDepth 20000

/-- The edge has an end in the set. -/
def hasS (s : Nat) (e : Int × Int) : Bool := s.testBit e.1.toNat || s.testBit e.2.toNat
/-- The edge with the new numbers. -/
def shE (s : Nat) (f : Int) (e : Int × Int) : Int × Int := (e.1 - (shC s e.1.toNat : Nat) + f, e.2 - (shC s e.2.toNat : Nat) + f)
def woL (s : Nat) (f : Int) (es : List (Int × Int)) : List (Int × Int) := (es.filter fun e => !hasS s e).map (shE s f)
theorem woL_snoc (s : Nat) (f : Int) (es : List (Int × Int)) (e : Int × Int) : woL s f (es ++ [e]) = if hasS s e = true then woL s f es else woL s f es ++ [shE s f e] := by
  unfold woL
  rw [List.filter_append, List.map_append]
  cases h : hasS s e <;> simp [h]
theorem woL_len (s : Nat) (f : Int) (es : List (Int × Int)) : (woL s f es).length ≤ es.length := by
  unfold woL; rw [List.length_map]; exact List.length_filter_le _ _
theorem own_lenE {w : World} {base : Nat} {e : TypeId} {v : Value} {n : Nat} {es : List (Int × Int)} (h : w.ownsRow base e 2 v n (cE es)) : n = es.length := by
  have := h.1
  rw [length_cE] at this
  omega

set_option maxHeartbeats 4000000 in
theorem without_own (n : Int) (A : Option Addr) (c : Nat) (es : List (Int × Int)) (N s : Nat) (f : Int) (w : World) (hl : es.length ≤ 1000) (hN : N ≤ 60) (hs : s < 2 ^ 63) (hf : 0 ≤ f ∧ f ≤ 1000) (hin : InN N es) (hr : RdE w A es) :
    Calls Tryz.prog 26 #[.agg #[.int .i64 n, .slice A es.length c], .int .u64 s, .int .i64 f] w fun e w' => ∃ A' c', e = .returned (.slice A' (woL s f es).length c') ∧ w'.ownsRow w.heap.size 40 2 (.slice A' (woL s f es).length c') (woL s f es).length (cE (woL s f es)) ∧ Below w.heap.size w w' := by
  have Hre : Hid (∀ W, Below w.heap.size w W → RdE W A es) := fun W hW => hr.below hW
  have Hin := Lib.hid hin
  have Hl := Lib.hid hl
  have Hs63 := Lib.hid hs
  have Hf := Lib.hid hf
  have HN := Lib.hid hN
  obtain ⟨m, Hm⟩ : ∃ m, Hid (es.length = m) := ⟨_, rfl⟩
  rw [Hm.out] at Hl ⊢
  clear hr hin hl hs hf hN
  go_enter Tryz.func26, Tryz.ntmps26
  go_wp2
  go_loopw [7, 13] (fun v i wr => ∃ (k L : Nat), k ≤ m ∧ i = .int .i64 k ∧ Hid (wr.ownsRow (w.heap.size + 1) 40 2 v L (cE (woL s f (es.take k)))) ∧ Hid (Below w.heap.size w wr) ∧ Hid (w.heap.size < wr.heap.size)) (fun _ i _ => m - (intOf i).toNat)
  case atStart => exact ⟨0, 0, Nat.zero_le _, rfl, own_nilE _ _ _, by show Below _ _ _; (repeat' (first | (with_reducible exact Below.refl _ _) | (with_reducible assumption) | (with_reducible refine Below.alloc ?_ ?_ _) | (with_reducible refine Below.drew ?_) | (with_reducible refine below_drewN ?_ _) | (with_reducible refine Below.setCell ?_ ?_ _) | (with_reducible refine Below.trans ?_ (Below.mono (by assumption) ?_)) | (first | omega | (simp only [World.size_alloc, World.size_setCell, World.size_drew]; omega) | (simp; omega) | (simp; done)))), by show _ < _; simp⟩
  case round =>
    obtain ⟨k, L, hk, rfl, Hown, Hbel, Hsz⟩ := hrel
    obtain ⟨A1, c1, rfl⟩ := own_form Hown.out
    have hsz := Hsz.out
    have HLk : Hid (L ≤ 1000) := by
      show _ ≤ _
      have h1 := own_lenE Hown.out
      have h2 := woL_len s f (es.take k)
      rw [List.length_take] at h2
      have := Hl.out
      omega
    by_cases hlt : k < m
    · obtain ⟨b, off, rfl, hb, hc⟩ := (Hre.out wr Hbel.out).pos (by rw [Hm.out]; omega)
      obtain ⟨hc0, hc1⟩ := hc k (by rw [Hm.out]; exact hlt)
      obtain ⟨x, y, Hxy, hx, hy⟩ := Hin.out k (by rw [Hm.out]; exact hlt)
      rw [Hxy] at hc0 hc1
      dsimp only at hc0 hc1
      have hx63 : x < 63 := by have := HN.out; omega
      have hy63 : y < 63 := by have := HN.out; omega
      obtain ⟨ek, ek2, ek3⟩ := idxF k m hlt
      have Hs : Hid (woL s f (es.take (k + 1)) = if (s.testBit x || s.testBit y) = true then woL s f (es.take k) else woL s f (es.take k) ++ [((x : Int) - (shC s x : Nat) + f, (y : Int) - (shC s y : Nat) + f)]) := by
        show _ = _
        rw [take_snocE es k (by rw [Hm.out]; exact hlt), Hxy, woL_snoc]
        simp only [hasS, shE, Int.toNat_natCast]
        first | rfl | (split <;> simp_all)
      obtain ⟨P, HP⟩ : ∃ P, Hid (woL s f (es.take k) = P) := ⟨_, rfl⟩
      rw [HP.out] at Hown Hs
      obtain ⟨q1, Hq1⟩ : ∃ q, Hid (s.testBit x = q) := ⟨_, rfl⟩
      obtain ⟨q2, Hq2⟩ : ∃ q, Hid (s.testBit y = q) := ⟨_, rfl⟩
      rw [Hq1.out, Hq2.out] at Hs
      have ch1 := Lib.hid fun W => has_b x s W q1 Hq1 hx63 Hs63.out
      have ch2 := Lib.hid fun W => has_b y s W q2 Hq2 hy63 Hs63.out
      have hk9 : k ≤ 1000 := by have := Hl.out; omega
      obtain ⟨u, hu⟩ : ∃ u, u = wr.alloc (.cells #[.int .i64 (x : Int), .int .i64 (y : Int)] 40) := ⟨_, rfl⟩
      have hbu : Below wr.heap.size wr u := by rw [hu]; exact Below.alloc (Below.refl _ _) (Nat.le_refl _) _
      have zu : u.heap.size = wr.heap.size + 1 := by rw [hu]; simp
      have KB : Hid (Blk u wr.heap.size 40 #[.int .i64 (x : Int), .int .i64 (y : Int)]) := by rw [hu]; exact Blk.new wr _ _
      have u0 := KB.out.cellAt 0 _ rfl
      have u1 := KB.out.cellAt 1 _ rfl
      have Hbu : Hid (Below w.heap.size w u) := Hbel.out.trans (hbu.mono Hbel.out.size)
      have Hzu := Lib.hid zu
      have hownu := Lib.hid (own_below Hown.out hbu)
      clear Hxy hc hx hy
      go_wp2_with fail
      rw [← hu]
      clear hu zu hc0 hc1
      refine (ch1.out u).mono ?_
      rintro e w9 ⟨rfl, rfl⟩
      cases q1
      · go_wp2_with fail
        refine (ch2.out u).mono ?_
        rintro e w9 ⟨rfl, rfl⟩
        cases q2
        · obtain ⟨r1, Hr1⟩ : ∃ r : Int, Hid ((x : Int) - (shC s x : Nat) = r) := ⟨_, rfl⟩
          obtain ⟨r2, Hr2⟩ : ∃ r : Int, Hid ((y : Int) - (shC s y : Nat) = r) := ⟨_, rfl⟩
          obtain ⟨z1, Hz1⟩ : ∃ r : Int, Hid (r1 + f = r) := ⟨_, rfl⟩
          obtain ⟨z2, Hz2⟩ : ∃ r : Int, Hid (r2 + f = r) := ⟨_, rfl⟩
          have Hs2 : Hid (woL s f (es.take (k + 1)) = P ++ [(z1, z2)]) := by
            show _ = _
            rw [Hs.out, if_neg (by decide), Hr1.out, Hr2.out, Hz1.out, Hz2.out]
          have hrb : (0 ≤ r1 ∧ r1 ≤ 100) ∧ (0 ≤ r2 ∧ r2 ≤ 100) := by
            have h1 := shC_le s x; have h2 := shC_le s y; have := Hr1.out; have := Hr2.out; omega
          have W1 : Hid (IntKind.i64.wrap (r1 + f) = z1) := by show _ = _; rw [← Hz1.out]; have := Hf.out; exact IntWalk.i64_in _ (by omega)
          have W2 : Hid (IntKind.i64.wrap (r2 + f) = z2) := by show _ = _; rw [← Hz2.out]; have := Hf.out; exact IntWalk.i64_in _ (by omega)
          have cf1 := fun W => shifted_b x s W hx63 Hs63.out
          have cf2 := fun W => shifted_b y s W hy63 Hs63.out
          rw [Hr1.out] at cf1
          rw [Hr2.out] at cf2
          have cf1 := Lib.hid cf1
          have cf2 := Lib.hid cf2
          clear hrb
          have hB3 : Below wr.heap.size wr (u.drew.alloc (.cells #[.int .i64 z1, .int .i64 z2] 40)) := (Below.drew hbu).alloc (by have := Hzu.out; simp; omega) _
          have hown2 := own_below Hown.out hB3
          have hnew : RdE (u.drew.alloc (.cells #[.int .i64 z1, .int .i64 z2] 40)) (some ⟨u.heap.size, 0, none⟩) [(z1, z2)] := blkE_rd (t := 40) (es := [(z1, z2)]) (Blk.new' (n := u.heap.size) _ (by simp))
          have KB2 : Hid (Blk (u.drew.alloc (.cells #[.int .i64 z1, .int .i64 z2] 40)) wr.heap.size 40 #[.int .i64 (x : Int), .int .i64 (y : Int)]) := KB.out.drew.alloc _
          go_wp2
          have w1 := W1.out
          have w2 := W2.out
          refine wp_region_noPanic ?_
          refine wp_region_held_drew (S := (fun w' => w'.cell? ⟨wr.heap.size, 0, none⟩ = some (.int .i64 (x : Int)) ∧ w'.cell? ⟨wr.heap.size, 1, none⟩ = some (.int .i64 (y : Int)))) (by kernel_rfl) ?_ (fun hHeld => ?_)
          · (try dsimp only); (first | exact hS3 | exact hS2 | assumption | (first | go_keep | (obtain ⟨hq, _⟩ := bcell ‹Below _ _ _›; (repeat' apply And.intro) <;> (rw [hq _ _ (by first | assumption | omega | (simp; done) | (simp; omega) | (simp; assumption))] <;> (first | assumption | (simp [*]; done))))))
          refine wpAnyH_take_d (i := 0) (d := some 29) (v := ?v1) rfl rfl (by kernel_rfl) (by kernel_rfl) (by kernel_rfl) (fun _ _ _ h => h) (Or.inl ⟨by kernel_rfl, ?y1⟩) (by assumption) ?_
          case y1 => (intro w' hSw; (try dsimp only at hSw); go_simp; try with_reducible rfl)
          try simp only [Act.put, List.setIfInBounds_toArray, List.set_cons_zero, List.set_cons_succ]
          refine wpAnyH_take_d (i := 1) (d := some 30) (v := ?v2) rfl rfl (by kernel_rfl) (by kernel_rfl) (by kernel_rfl) (fun _ _ _ h => h) (Or.inl ⟨by kernel_rfl, ?y2⟩) (by assumption) ?_
          case y2 => (intro w' hSw; (try dsimp only at hSw); go_simp; try with_reducible rfl)
          try simp only [Act.put, List.setIfInBounds_toArray, List.set_cons_zero, List.set_cons_succ]
          refine wpAnyH_take_d (i := 2) (d := some 31) (v := ?v3) rfl rfl (by kernel_rfl) (by kernel_rfl) (by kernel_rfl) (fun _ _ _ h => h) (Or.inl ⟨by kernel_rfl, ?y3⟩) (by assumption) ?_
          case y3 => (intro w' hSw; (try dsimp only at hSw); go_simp; try with_reducible rfl)
          try simp only [Act.put, List.setIfInBounds_toArray, List.set_cons_zero, List.set_cons_succ]
          refine wpAnyH_take_d (i := 3) (d := some 32) (v := ?v4) rfl rfl (by kernel_rfl) (by kernel_rfl) (by kernel_rfl) (fun _ _ _ h => h) (Or.inl ⟨by kernel_rfl, ?y4⟩) (by assumption) ?_
          case y4 => (intro w' hSw; (try dsimp only at hSw); go_simp; try with_reducible rfl)
          try simp only [Act.put, List.setIfInBounds_toArray, List.set_cons_zero, List.set_cons_succ]
          refine wpAnyH_take_d (i := 5) (d := some 34) (v := ?v5) rfl rfl (by kernel_rfl) (by kernel_rfl) (by kernel_rfl) (fun _ _ _ h => h) (Or.inl ⟨by kernel_rfl, ?y5⟩) (by assumption) ?_
          case y5 => (intro w' hSw; (try dsimp only at hSw); go_simp; try with_reducible rfl)
          try simp only [Act.put, List.setIfInBounds_toArray, List.set_cons_zero, List.set_cons_succ]
          refine wpAnyH_take_d (i := 7) (d := some 36) (v := ?v6) rfl rfl (by kernel_rfl) (by kernel_rfl) (by kernel_rfl) (fun _ _ _ h => h) (Or.inl ⟨by kernel_rfl, ?y6⟩) (by assumption) ?_
          case y6 => (intro w' hSw; (try dsimp only at hSw); go_simp; try with_reducible rfl)
          try simp only [Act.put, List.setIfInBounds_toArray, List.set_cons_zero, List.set_cons_succ]
          refine wpAnyH_take_d (i := 8) (d := some 37) (v := ?v7) rfl rfl (by kernel_rfl) (by kernel_rfl) (by kernel_rfl) (fun _ _ _ h => h) (Or.inl ⟨by kernel_rfl, ?y7⟩) (by assumption) ?_
          case y7 => (intro w' hSw; (try dsimp only at hSw); go_simp; try with_reducible rfl)
          try simp only [Act.put, List.setIfInBounds_toArray, List.set_cons_zero, List.set_cons_succ]
          refine wpAnyH_take_d (i := 9) (d := some 38) (v := ?v8) rfl rfl (by kernel_rfl) (by kernel_rfl) (by kernel_rfl) (fun _ _ _ h => h) (Or.inl ⟨by kernel_rfl, ?y8⟩) (by assumption) ?_
          case y8 => (intro w' hSw; (try dsimp only at hSw); go_simp; try with_reducible rfl)
          try simp only [Act.put, List.setIfInBounds_toArray, List.set_cons_zero, List.set_cons_succ]
          refine wpAnyH_take_d (i := 11) (d := some 40) (v := ?v9) rfl rfl (by kernel_rfl) (by kernel_rfl) (by kernel_rfl) (fun _ _ _ h => h) (Or.inl ⟨by kernel_rfl, ?y9⟩) (by assumption) ?_
          case y9 => (intro w' hSw; (try dsimp only at hSw); go_simp; try with_reducible rfl)
          try simp only [Act.put, List.setIfInBounds_toArray, List.set_cons_zero, List.set_cons_succ]
          refine wpAnyH_ready (rs := [4]) (by kernel_rfl) (by simp) ?_
          refine AllReadyH.cons rfl (fun K hK => ?_) AllReadyH.nil
          go_simp
          refine (cf1.out _).mono ?_; rintro e w9 ⟨rfl, rfl⟩
          refine hK.out _ _ ?s10 (fun hHeld10 => ?_)
          case s10 => ((try dsimp only); (first | exact hS3 | exact hS2 | assumption | (first | go_keep | (obtain ⟨hq, _⟩ := bcell ‹Below _ _ _›; (repeat' apply And.intro) <;> (rw [hq _ _ (by first | assumption | omega | (simp; done) | (simp; omega) | (simp; assumption))] <;> (first | assumption | (simp [*]; done)))))))
          clear hK K hHeld
          have hHeld := hHeld10; clear hHeld10
          try simp only [Act.put, List.setIfInBounds_toArray, List.set_cons_zero, List.set_cons_succ]
          refine wpAnyH_take_d (i := 6) (d := some 35) (v := ?v11) rfl rfl (by kernel_rfl) (by kernel_rfl) (by kernel_rfl) (fun _ _ _ h => h) (Or.inl ⟨by kernel_rfl, ?y11⟩) (by assumption) ?_
          case y11 => (intro w' hSw; (try dsimp only at hSw); go_simp; try with_reducible rfl)
          try simp only [Act.put, List.setIfInBounds_toArray, List.set_cons_zero, List.set_cons_succ]
          refine wpAnyH_ready (rs := [10]) (by kernel_rfl) (by simp) ?_
          refine AllReadyH.cons rfl (fun K hK => ?_) AllReadyH.nil
          go_simp
          refine (cf2.out _).mono ?_; rintro e w9 ⟨rfl, rfl⟩
          refine hK.out _ _ ?s12 (fun hHeld12 => ?_)
          case s12 => ((try dsimp only); (first | exact hS3 | exact hS2 | assumption | (first | go_keep | (obtain ⟨hq, _⟩ := bcell ‹Below _ _ _›; (repeat' apply And.intro) <;> (rw [hq _ _ (by first | assumption | omega | (simp; done) | (simp; omega) | (simp; assumption))] <;> (first | assumption | (simp [*]; done)))))))
          clear hK K hHeld
          have hHeld := hHeld12; clear hHeld12
          try simp only [Act.put, List.setIfInBounds_toArray, List.set_cons_zero, List.set_cons_succ]
          refine wpAnyH_take_d (i := 12) (d := some 41) (v := ?v13) rfl rfl (by kernel_rfl) (by kernel_rfl) (by kernel_rfl) (fun _ _ _ h => h) (Or.inl ⟨by kernel_rfl, ?y13⟩) (by assumption) ?_
          case y13 => (intro w' hSw; (try dsimp only at hSw); go_simp; try with_reducible rfl)
          try simp only [Act.put, List.setIfInBounds_toArray, List.set_cons_zero, List.set_cons_succ]
          refine wpAnyH_take_d (i := 13) (d := some 42) (v := ?v14) rfl rfl (by kernel_rfl) (by kernel_rfl) (by kernel_rfl) (fun _ _ _ h => h) (Or.inl ⟨by kernel_rfl, ?y14⟩) (by assumption) ?_
          case y14 => (intro w' hSw; (try dsimp only at hSw); go_simp; try with_reducible rfl)
          try simp only [Act.put, List.setIfInBounds_toArray, List.set_cons_zero, List.set_cons_succ]
          have hS2 : (u.drew.alloc (.cells #[.int .i64 z1, .int .i64 z2] 40)).cell? ⟨wr.heap.size, 0, none⟩ = some (.int .i64 (x : Int)) ∧ (u.drew.alloc (.cells #[.int .i64 z1, .int .i64 z2] 40)).cell? ⟨wr.heap.size, 1, none⟩ = some (.int .i64 (y : Int)) := ⟨KB2.out.cellAt 0 _ rfl, KB2.out.cellAt 1 _ rfl⟩
          refine wpAnyH_ready (rs := [14]) (by kernel_rfl) (by simp) ?_
          refine AllReadyH.cons rfl (fun K hK => ?_) AllReadyH.nil
          go_simp
          refine hK.out _ _ ?s15 (fun hHeld15 => ?_)
          case s15 => ((try dsimp only); (first | exact hS3 | exact hS2 | assumption | (first | go_keep | (obtain ⟨hq, _⟩ := bcell ‹Below _ _ _›; (repeat' apply And.intro) <;> (rw [hq _ _ (by first | assumption | omega | (simp; done) | (simp; omega) | (simp; assumption))] <;> (first | assumption | (simp [*]; done)))))))
          clear hK K hHeld
          have hHeld := hHeld15; clear hHeld15
          try simp only [Act.put, List.setIfInBounds_toArray, List.set_cons_zero, List.set_cons_succ]
          refine wpAnyH_ready (rs := [15]) (by kernel_rfl) (by simp) ?_
          refine AllReadyH.cons rfl (fun K hK => ?_) AllReadyH.nil
          refine wp_appendE rfl (w.heap.size + 1) _ L P rfl hown2 u.heap.size 0 1 1 [(z1, z2)] rfl rfl hnew (by have := HLk.out; omega) (by omega) (by have := Hzu.out; simp; omega) ?_
          intro v' w3 hown3 hfr hgr
          have hb31 := hfr (w.heap.size + 1) wr (Nat.le_refl _) (hB3.mono (by omega))
          have KB3 := KB2.out.grown hgr Hown.out (Nat.le_refl _)
          have hS3 : w3.cell? ⟨wr.heap.size, 0, none⟩ = some (.int .i64 (x : Int)) ∧ w3.cell? ⟨wr.heap.size, 1, none⟩ = some (.int .i64 (y : Int)) := ⟨KB3.cellAt 0 _ rfl, KB3.cellAt 1 _ rfl⟩
          refine hK.out _ _ ?s16 (fun hHeld16 => ?_)
          case s16 => ((try dsimp only); (first | exact hS3 | exact hS2 | assumption | (first | go_keep | (obtain ⟨hq, _⟩ := bcell ‹Below _ _ _›; (repeat' apply And.intro) <;> (rw [hq _ _ (by first | assumption | omega | (simp; done) | (simp; omega) | (simp; assumption))] <;> (first | assumption | (simp [*]; done)))))))
          clear hK K hHeld
          have hHeld := hHeld16; clear hHeld16
          try simp only [Act.put, List.setIfInBounds_toArray, List.set_cons_zero, List.set_cons_succ]
          refine wpAnyH_take_d (i := 16) (d := some 7) (v := ?v17) rfl rfl (by kernel_rfl) (by kernel_rfl) (by kernel_rfl) (fun _ _ _ h => h) (Or.inl ⟨by kernel_rfl, ?y17⟩) (by assumption) ?_
          case y17 => (intro w' hSw; (try dsimp only at hSw); go_simp; try with_reducible rfl)
          try simp only [Act.put, List.setIfInBounds_toArray, List.set_cons_zero, List.set_cons_succ]
          refine wpAnyH_done (by kernel_rfl) ?_ _
          refine NoPanic.normal ?_
          clear hHeld hS3 KB3 KB2 hS2 w1 w2
          have Hb3 : Hid (Below w.heap.size w w3) := Hbel.out.trans (hb31.mono (by omega))
          have Hz3 : Hid (w.heap.size < w3.heap.size) := Nat.lt_of_lt_of_le hsz hb31.size
          obtain ⟨g, c2, rfl, hg1, hg2⟩ := own_someI hown3 (by omega)
          have Hown3 : Hid (w3.ownsRow (w.heap.size + 1) 40 2 (.slice (some ⟨g, 0, none⟩) (L + 1) c2) (L + 1) (cE (woL s f (es.take (k + 1))))) := by
            show World.ownsRow _ _ _ _ _ _ _
            rw [Hs2.out]
            exact hown3
          clear hown3 hfr hgr hown2 hownu hnew hB3 hb31 Hown Hbel Hsz u0 u1 hbu KB
          go_wp2
          exact ⟨⟨k + 1, L + 1, by omega, by go_num, Hown3, Hb3, Hz3⟩, by simp [intOf]; omega⟩
        · have Hs2 : Hid (woL s f (es.take (k + 1)) = P) := by show _ = _; rw [Hs.out, if_pos (by decide)]
          have Hzz : Hid (w.heap.size < u.heap.size) := by show _ < _; have := Hzu.out; omega
          go_wp2
          exact ⟨⟨k + 1, L, by omega, by go_num, by { show World.ownsRow _ _ _ _ _ _ _; rw [Hs2.out]; exact hownu.out }, Hbu, Hzz⟩, by simp [intOf]; omega⟩
      · have Hs2 : Hid (woL s f (es.take (k + 1)) = P) := by show _ = _; rw [Hs.out, if_pos (by rfl)]
        have Hzz : Hid (w.heap.size < u.heap.size) := by show _ < _; have := Hzu.out; omega
        go_wp2
        exact ⟨⟨k + 1, L, by omega, by go_num, by { show World.ownsRow _ _ _ _ _ _ _; rw [Hs2.out]; exact hownu.out }, Hbu, Hzz⟩, by simp [intOf]; omega⟩
    · obtain rfl : k = m := by omega
      have hfull : es.take k = es := List.take_of_length_le (by rw [Hm.out]; exact Nat.le_refl _)
      rw [hfull] at Hown
      have HLl : Hid (L = (woL s f es).length) := own_lenE Hown.out
      go_wp2
      go_ret
      rw [← HLl.out]
      exact ⟨A1, c1, rfl, own_mono Hown.out (by omega), Hbel.out⟩
theorem without_b (n : Int) (A : Option Addr) (c : Nat) (es : List (Int × Int)) (N s : Nat) (f : Int) (w : World) (hl : es.length ≤ 1000) (hN : N ≤ 60) (hs : s < 2 ^ 63) (hf : 0 ≤ f ∧ f ≤ 1000) (hin : InN N es) (hr : RdE w A es) :
    Calls Tryz.prog 26 #[.agg #[.int .i64 n, .slice A es.length c], .int .u64 s, .int .i64 f] w fun e w' => ∃ A' c', e = .returned (.slice A' (woL s f es).length c') ∧ FrE w' w.heap.size A' (woL s f es) ∧ Below w.heap.size w w' :=
  (without_own n A c es N s f w hl hN hs hf hin hr).mono fun _ _ ⟨A', c', he, ho, hb⟩ => ⟨A', c', he, own_frE ho, hb⟩
end Go.Proofs.YtjgmoffkecnmcaaGreat
