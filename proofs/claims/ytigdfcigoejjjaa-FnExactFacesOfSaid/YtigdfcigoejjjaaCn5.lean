/- The reference's parts: l01Leaders, l01Parts, l01Connected. No statement of the program is proved here. -/
import Derived.Test.YtigdfcigoejjjaaCn4
import Derived.Test.YtigdfcigoejjjaaAp1
import Derived.Test.YtigdfcigoejjjaaEx2
import Derived.Test.YtigdfcigoejjjaaAt
namespace Go.Proofs.Ytigdfcigoejjjaa
open Go.RowKit
set_option linter.unusedSimpArgs false
set_option linter.unusedVariables false
set_option maxRecDepth 20000

def cellN (w : World) (g v : Nat) : Nat := match w.cell? ⟨g, v, none⟩ with
  | some (.int _ x) => x.toNat
  | _ => 0
/-- The sum of the labels in memory. -/
def sumW (w : World) (g N : Nat) : Nat := ((List.range N).map (cellN w g)).sum
theorem sumW_own {w : World} {base g n c : Nat} {e : TypeId} {xs : List Int} (h : w.ownsRow base e 1 (.slice (some ⟨g, 0, none⟩) n c) n (cI xs)) (hn : xs.length = n) : sumW w g n = sumL xs := by
  unfold sumW sumL
  congr 1
  refine List.ext_getElem (by simp [hn]) fun i h1 h2 => ?_
  have hi : i < n := by simpa using h1
  have hc := own_cellI h hn hi
  simp only [List.getElem_map, List.getElem_range, cellN, hc]
  simp [List.getD, hn, hi]
theorem own_blkC {w : World} {base : Nat} {e : TypeId} {n c g : Nat} {xs : List Int} (h : w.ownsRow base e 1 (.slice (some ⟨g, 0, none⟩) n c) n (cI xs)) : ∃ cur, Blk w g e cur ∧ base ≤ g := by
  rcases h.2 with ⟨h1, _⟩ | ⟨g', cap, cur, hv, hge, hh, _⟩
  · cases h1
  · injection hv with h1 _ _
    injection h1 with h1
    injection h1 with h1 _ _
    subst h1
    exact ⟨cur, hh, hge⟩
theorem idL_succ (k : Nat) : idL (k + 1) = idL k ++ [(k : Int)] := by simp [idL, List.range_succ]

set_option maxHeartbeats 8000000 in
theorem l01Leaders_b (N : Nat) (A : Option Addr) (c : Nat) (es : List (Int × Int)) (w : World) (hN : N ≤ 1000) (hl : es.length ≤ 1048576) (hin : InN N es) (hr : RdE w A es) :
    Calls Try.prog 114 #[.int .i64 N, .slice A es.length c] w fun e w' => ∃ A' c', e = .returned (.slice A' N c') ∧ ∃ out, Lab es N out ∧ (∀ k, k < es.length → ∀ x y : Nat, es.getD k (0, 0) = ((x : Int), (y : Int)) → out.getD x 0 = out.getD y 0) ∧ w'.ownsRow w.heap.size 2 1 (.slice A' N c') N (cI out) ∧ Below w.heap.size w w' := by
  have Hre : Hid (∀ W, Below w.heap.size w W → RdE W A es) := fun W hW => hr.below hW
  have Hin := Lib.hid hin
  obtain ⟨L, Hm⟩ : ∃ L, Hid (es.length = L) := ⟨_, rfl⟩
  rw [Hm.out] at hl ⊢
  clear hr hin
  go_enter Try.func114, Try.ntmps114
  go_wp2
  go_loopw [5, 6] (fun s i wr => ∃ k : Nat, k ≤ N ∧ i = .int .i64 k ∧ Hid (∃ g c', s = .slice (some ⟨g, 0, none⟩) k c') ∧ Hid (wr.ownsRow w.heap.size 2 1 s k (cI (idL k))) ∧ Hid (Below w.heap.size w wr)) (fun _ i _ => N - (intOf i).toNat)
  case atStart => exact ⟨0, Nat.zero_le _, rfl, ⟨_, _, rfl⟩, own_blk (xs := []) (Blk.new' (n := w.heap.size) (t := 2) (cs := #[]) _ rfl) (by simp) (by decide), by show Below _ _ _; (repeat' (first | (with_reducible exact Below.refl _ _) | (with_reducible assumption) | (with_reducible refine Below.alloc ?_ ?_ _) | (with_reducible refine Below.drew ?_) | (with_reducible refine below_drewN ?_ _) | (with_reducible refine Below.setCell ?_ ?_ _) | (with_reducible refine Below.trans ?_ (Below.mono (by assumption) ?_)) | (first | omega | (simp only [World.size_alloc, World.size_setCell, World.size_drew]; omega) | (simp; omega) | (simp; done))))⟩
  case round =>
    obtain ⟨k, hk, rfl, Hsl, Hown, Hbel⟩ := hrel
    obtain ⟨g0, c0, rfl⟩ := Hsl.out
    have hsz := Hbel.out.size
    by_cases hlt : k < N
    · obtain ⟨ek, ek2, ek3⟩ := idxF k N hlt
      have Hs := Lib.hid (idL_succ k)
      have hown2 := own_below Hown.out (show Below wr.heap.size wr (wr.alloc (.cells #[.int .i64 (k : Int)] 2)) by (repeat' (first | (with_reducible exact Below.refl _ _) | (with_reducible assumption) | (with_reducible refine Below.alloc ?_ ?_ _) | (with_reducible refine Below.drew ?_) | (with_reducible refine below_drewN ?_ _) | (with_reducible refine Below.setCell ?_ ?_ _) | (with_reducible refine Below.trans ?_ (Below.mono (by assumption) ?_)) | (first | omega | (simp only [World.size_alloc, World.size_setCell, World.size_drew]; omega) | (simp; omega) | (simp; done)))))
      have hB3 : Below w.heap.size w (wr.alloc (.cells #[.int .i64 (k : Int)] 2)) := by have := Hbel.out; (repeat' (first | (with_reducible exact Below.refl _ _) | (with_reducible assumption) | (with_reducible refine Below.alloc ?_ ?_ _) | (with_reducible refine Below.drew ?_) | (with_reducible refine below_drewN ?_ _) | (with_reducible refine Below.setCell ?_ ?_ _) | (with_reducible refine Below.trans ?_ (Below.mono (by assumption) ?_)) | (first | omega | (simp only [World.size_alloc, World.size_setCell, World.size_drew]; omega) | (simp; omega) | (simp; done))))
      go_wp2_with (first
        | (at_builtin; refine wpList_append1 rfl rfl w.heap.size _ k (idL k) rfl hown2 ⟨wr.heap.size, 0, none⟩ 1 (k : Int) rfl (by simp) (by omega) (by simp; omega) ?_))
      intro g c9 w3 hown3 hfr
      have Hb3 : Hid (Below w.heap.size w w3) := hfr w.heap.size w (Nat.le_refl _) hB3
      have Hown3 : Hid (w3.ownsRow w.heap.size 2 1 (.slice (some ⟨g, 0, none⟩) (k + 1) c9) (k + 1) (cI (idL (k + 1)))) := by
        show World.ownsRow _ _ _ _ _ _ _
        rw [Hs.out]
        exact hown3
      clear hown3 hfr hown2 hB3 Hown Hbel
      go_wp2
      exact ⟨⟨k + 1, by omega, by go_num, ⟨_, _, rfl⟩, Hown3, Hb3⟩, by simp [intOf]; omega⟩
    · obtain rfl : N = k := by omega
      go_wp2_with fail
      go_loopw [7] (fun q wr => ∃ (labs : List Int) (bq : Bool), q = .bool bq ∧ Hid (Lab es N labs) ∧ Hid (bq = false → ∀ k, k < L → ∀ x y : Nat, es.getD k (0, 0) = ((x : Int), (y : Int)) → labs.getD x 0 = labs.getD y 0) ∧ Hid (wr.ownsRow w.heap.size 2 1 (.slice (some ⟨g0, 0, none⟩) N c0) N (cI labs)) ∧ Hid (Below w.heap.size w wr)) (fun q wr => sumW wr g0 N + (match q with | .bool true => 1 | _ => 0))
      case atStart => exact ⟨idL N, true, rfl, Lab.start es N, (fun h => by cases h), Hown, Hbel⟩
      case round =>
        clear Hown Hbel hsz
        obtain ⟨labs, bq, rfl, HL, HS, Hown, Hbel⟩ := hrel
        have Hsum := Lib.hid (sumW_own Hown.out HL.out.len)
        cases bq
        · have Hsame := Lib.hid (HS.out rfl)
          go_wp2
          go_ret
          exact ⟨_, _, rfl, labs, HL.out, Hsame.out, Hown.out, Hbel.out⟩
        · clear HS
          obtain ⟨wo, hwo⟩ : ∃ wo, wo = wr := ⟨_, rfl⟩
          subst hwo
          go_wp2_with fail
          go_loopw [7, 8] (fun q ii wr => ∃ (k : Nat) (lab2 : List Int) (bq : Bool), k ≤ L ∧ ii = .int .i64 k ∧ q = .bool bq ∧ Hid (Lab es N lab2) ∧ Hid ((bq = false → sumL lab2 = sumL labs ∧ ∀ j, j < k → ∀ x y : Nat, es.getD j (0, 0) = ((x : Int), (y : Int)) → lab2.getD x 0 = lab2.getD y 0) ∧ (bq = true → sumL lab2 < sumL labs)) ∧ Hid (wr.ownsRow w.heap.size 2 1 (.slice (some ⟨g0, 0, none⟩) N c0) N (cI lab2)) ∧ Hid (Below w.heap.size w wr)) (fun _ ii _ => L - (intOf ii).toNat)
          case atStart => exact ⟨0, labs, false, Nat.zero_le _, rfl, rfl, HL, ⟨fun _ => ⟨rfl, fun j hj => by omega⟩, fun h => (by cases h)⟩, Hown, Hbel⟩
          case round =>
            clear Hown Hbel HL
            obtain ⟨k, lab2, bq, hk, rfl, rfl, HL, HS, Hown, Hbel⟩ := hrel
            by_cases hlt : k < L
            · obtain ⟨bb, off, rfl, hb, hc⟩ := (Hre.out wr Hbel.out).pos (by rw [Hm.out]; omega)
              obtain ⟨hc0, hc1⟩ := hc k (by rw [Hm.out]; exact hlt)
              obtain ⟨x, y, Hxy', hx, hy⟩ := Hin.out k (by rw [Hm.out]; exact hlt)
              have Hxy := Lib.hid Hxy'
              rw [Hxy'] at hc0 hc1
              dsimp only at hc0 hc1
              clear Hxy' hc
              obtain ⟨ek, ek2, ek3⟩ := idxF k L hlt
              obtain ⟨ex, ex2, ex3⟩ := idxF x N hx
              obtain ⟨ey, ey2, ey3⟩ := idxF y N hy
              have d0 := own_cellI Hown.out HL.out.len hx
              have d1 := own_cellI Hown.out HL.out.len hy
              obtain ⟨a, Ha⟩ : ∃ a, Hid (lab2.getD x 0 = a) := ⟨_, rfl⟩
              obtain ⟨b, Hb⟩ : ∃ a, Hid (lab2.getD y 0 = a) := ⟨_, rfl⟩
              rw [Ha.out] at d0
              rw [Hb.out] at d1
              have hk9 : k ≤ 1048576 := by omega
              go_wp2
              refine wp_region_noPanic ?_
              refine wp_region_held_drew (S := (fun w' => w'.cell? ⟨bb, off + k * 2, none⟩ = some (.int .i64 (x : Int)) ∧ w'.cell? ⟨bb, off + k * 2 + 1, none⟩ = some (.int .i64 (y : Int)) ∧ w'.cell? ⟨g0, x, none⟩ = some (.int .i64 a) ∧ w'.cell? ⟨g0, y, none⟩ = some (.int .i64 b))) (by kernel_rfl) ?_ (fun hHeld => ?_)
              · (try dsimp only); (first | exact ⟨hc0, hc1, d0, d1⟩ | assumption | (first | go_keep | (obtain ⟨hq, _⟩ := bcell ‹Below _ _ _›; (repeat' apply And.intro) <;> (rw [hq _ _ (by first | assumption | omega | (simp; done) | (simp; omega) | (simp; assumption))] <;> (first | assumption | (simp [*]; done))))))
              refine wpAnyH_take_d (i := 0) (d := some 28) (v := ?v1) rfl rfl (by kernel_rfl) (by kernel_rfl) (by kernel_rfl) (fun _ _ _ h => h) (Or.inl ⟨by kernel_rfl, ?y1⟩) (by assumption) ?_
              case y1 => (intro w' hSw; (try dsimp only at hSw); go_simp; try with_reducible rfl)
              try simp only [Act.put, List.setIfInBounds_toArray, List.set_cons_zero, List.set_cons_succ]
              refine wpAnyH_take_d (i := 1) (d := some 29) (v := ?v2) rfl rfl (by kernel_rfl) (by kernel_rfl) (by kernel_rfl) (fun _ _ _ h => h) (Or.inl ⟨by kernel_rfl, ?y2⟩) (by assumption) ?_
              case y2 => (intro w' hSw; (try dsimp only at hSw); go_simp; try with_reducible rfl)
              try simp only [Act.put, List.setIfInBounds_toArray, List.set_cons_zero, List.set_cons_succ]
              refine wpAnyH_take_d (i := 2) (d := some 30) (v := ?v3) rfl rfl (by kernel_rfl) (by kernel_rfl) (by kernel_rfl) (fun _ _ _ h => h) (Or.inl ⟨by kernel_rfl, ?y3⟩) (by assumption) ?_
              case y3 => (intro w' hSw; (try dsimp only at hSw); go_simp; try with_reducible rfl)
              try simp only [Act.put, List.setIfInBounds_toArray, List.set_cons_zero, List.set_cons_succ]
              refine wpAnyH_take_d (i := 3) (d := some 31) (v := ?v4) rfl rfl (by kernel_rfl) (by kernel_rfl) (by kernel_rfl) (fun _ _ _ h => h) (Or.inl ⟨by kernel_rfl, ?y4⟩) (by assumption) ?_
              case y4 => (intro w' hSw; (try dsimp only at hSw); go_simp; try with_reducible rfl)
              try simp only [Act.put, List.setIfInBounds_toArray, List.set_cons_zero, List.set_cons_succ]
              refine wpAnyH_take_d (i := 4) (d := some 32) (v := ?v5) rfl rfl (by kernel_rfl) (by kernel_rfl) (by kernel_rfl) (fun _ _ _ h => h) (Or.inl ⟨by kernel_rfl, ?y5⟩) (by assumption) ?_
              case y5 => (intro w' hSw; (try dsimp only at hSw); go_simp; try with_reducible rfl)
              try simp only [Act.put, List.setIfInBounds_toArray, List.set_cons_zero, List.set_cons_succ]
              refine wpAnyH_take_d (i := 5) (d := some 33) (v := ?v6) rfl rfl (by kernel_rfl) (by kernel_rfl) (by kernel_rfl) (fun _ _ _ h => h) (Or.inl ⟨by kernel_rfl, ?y6⟩) (by assumption) ?_
              case y6 => (intro w' hSw; (try dsimp only at hSw); go_simp; try with_reducible rfl)
              try simp only [Act.put, List.setIfInBounds_toArray, List.set_cons_zero, List.set_cons_succ]
              refine wpAnyH_take_d (i := 6) (d := some 34) (v := ?v7) rfl rfl (by kernel_rfl) (by kernel_rfl) (by kernel_rfl) (fun _ _ _ h => h) (Or.inl ⟨by kernel_rfl, ?y7⟩) (by assumption) ?_
              case y7 => (intro w' hSw; (try dsimp only at hSw); go_simp; try with_reducible rfl)
              try simp only [Act.put, List.setIfInBounds_toArray, List.set_cons_zero, List.set_cons_succ]
              refine wpAnyH_take_d (i := 7) (d := some 35) (v := ?v8) rfl rfl (by kernel_rfl) (by kernel_rfl) (by kernel_rfl) (fun _ _ _ h => h) (Or.inl ⟨by kernel_rfl, ?y8⟩) (by assumption) ?_
              case y8 => (intro w' hSw; (try dsimp only at hSw); go_simp; try with_reducible rfl)
              try simp only [Act.put, List.setIfInBounds_toArray, List.set_cons_zero, List.set_cons_succ]
              refine wpAnyH_take_d (i := 8) (d := some 36) (v := ?v9) rfl rfl (by kernel_rfl) (by kernel_rfl) (by kernel_rfl) (fun _ _ _ h => h) (Or.inl ⟨by kernel_rfl, ?y9⟩) (by assumption) ?_
              case y9 => (intro w' hSw; (try dsimp only at hSw); go_simp; try with_reducible rfl)
              try simp only [Act.put, List.setIfInBounds_toArray, List.set_cons_zero, List.set_cons_succ]
              refine wpAnyH_take_d (i := 9) (d := some 37) (v := ?v10) rfl rfl (by kernel_rfl) (by kernel_rfl) (by kernel_rfl) (fun _ _ _ h => h) (Or.inl ⟨by kernel_rfl, ?y10⟩) (by assumption) ?_
              case y10 => (intro w' hSw; (try dsimp only at hSw); go_simp; try with_reducible rfl)
              try simp only [Act.put, List.setIfInBounds_toArray, List.set_cons_zero, List.set_cons_succ]
              refine wpAnyH_take_d (i := 10) (d := some 38) (v := ?v11) rfl rfl (by kernel_rfl) (by kernel_rfl) (by kernel_rfl) (fun _ _ _ h => h) (Or.inl ⟨by kernel_rfl, ?y11⟩) (by assumption) ?_
              case y11 => (intro w' hSw; (try dsimp only at hSw); go_simp; try with_reducible rfl)
              try simp only [Act.put, List.setIfInBounds_toArray, List.set_cons_zero, List.set_cons_succ]
              refine wpAnyH_take_d (i := 11) (d := some 39) (v := ?v12) rfl rfl (by kernel_rfl) (by kernel_rfl) (by kernel_rfl) (fun _ _ _ h => h) (Or.inl ⟨by kernel_rfl, ?y12⟩) (by assumption) ?_
              case y12 => (intro w' hSw; (try dsimp only at hSw); go_simp; try with_reducible rfl)
              try simp only [Act.put, List.setIfInBounds_toArray, List.set_cons_zero, List.set_cons_succ]
              refine wpAnyH_take_d (i := 12) (d := some 40) (v := ?v13) rfl rfl (by kernel_rfl) (by kernel_rfl) (by kernel_rfl) (fun _ _ _ h => h) (Or.inl ⟨by kernel_rfl, ?y13⟩) (by assumption) ?_
              case y13 => (intro w' hSw; (try dsimp only at hSw); go_simp; try with_reducible rfl)
              try simp only [Act.put, List.setIfInBounds_toArray, List.set_cons_zero, List.set_cons_succ]
              refine wpAnyH_take_d (i := 13) (d := some 41) (v := ?v14) rfl rfl (by kernel_rfl) (by kernel_rfl) (by kernel_rfl) (fun _ _ _ h => h) (Or.inl ⟨by kernel_rfl, ?y14⟩) (by assumption) ?_
              case y14 => (intro w' hSw; (try dsimp only at hSw); go_simp; try with_reducible rfl)
              try simp only [Act.put, List.setIfInBounds_toArray, List.set_cons_zero, List.set_cons_succ]
              refine wpAnyH_take_d (i := 14) (d := some 42) (v := ?v15) rfl rfl (by kernel_rfl) (by kernel_rfl) (by kernel_rfl) (fun _ _ _ h => h) (Or.inl ⟨by kernel_rfl, ?y15⟩) (by assumption) ?_
              case y15 => (intro w' hSw; (try dsimp only at hSw); go_simp; try with_reducible rfl)
              try simp only [Act.put, List.setIfInBounds_toArray, List.set_cons_zero, List.set_cons_succ]
              refine wpAnyH_take_d (i := 15) (d := some 43) (v := ?v16) rfl rfl (by kernel_rfl) (by kernel_rfl) (by kernel_rfl) (fun _ _ _ h => h) (Or.inl ⟨by kernel_rfl, ?y16⟩) (by assumption) ?_
              case y16 => (intro w' hSw; (try dsimp only at hSw); go_simp; try with_reducible rfl)
              try simp only [Act.put, List.setIfInBounds_toArray, List.set_cons_zero, List.set_cons_succ]
              refine wpAnyH_take_d (i := 16) (d := some 9) (v := ?v17) rfl rfl (by kernel_rfl) (by kernel_rfl) (by kernel_rfl) (fun _ _ _ h => h) (Or.inl ⟨by kernel_rfl, ?y17⟩) (by assumption) ?_
              case y17 => (intro w' hSw; (try dsimp only at hSw); go_simp; try with_reducible rfl)
              try simp only [Act.put, List.setIfInBounds_toArray, List.set_cons_zero, List.set_cons_succ]
              refine wpAnyH_take_d (i := 17) (d := some 10) (v := ?v18) rfl rfl (by kernel_rfl) (by kernel_rfl) (by kernel_rfl) (fun _ _ _ h => h) (Or.inl ⟨by kernel_rfl, ?y18⟩) (by assumption) ?_
              case y18 => (intro w' hSw; (try dsimp only at hSw); go_simp; try with_reducible rfl)
              try simp only [Act.put, List.setIfInBounds_toArray, List.set_cons_zero, List.set_cons_succ]
              refine wpAnyH_done (by kernel_rfl) ?_ _
              refine NoPanic.normal ?_
              clear hHeld hc0 hc1 d0 d1
              obtain ⟨w5, hw5⟩ : ∃ u, u = wr.drew := ⟨_, rfl⟩
              have hb5 : Below wr.heap.size wr w5 := by rw [hw5]; exact Below.drew (Below.refl _ _)
              rw [← hw5]
              clear hw5
              have Hown5 := Lib.hid (own_below Hown.out hb5)
              have Hb5 := Lib.hid (Hbel.out.trans (hb5.mono Hbel.out.size))
              clear hb5 Hown Hbel
              cases q1 : (a != b)
              · have hab : a = b := by simpa using q1
                have HS2 : Hid ((bq = false → sumL lab2 = sumL labs ∧ ∀ j, j < k + 1 → ∀ x y : Nat, es.getD j (0, 0) = ((x : Int), (y : Int)) → lab2.getD x 0 = lab2.getD y 0) ∧ (bq = true → sumL lab2 < sumL labs)) := ⟨fun h => ⟨(HS.out.1 h).1, fun j hj p q hpq => by
                  by_cases e : j = k
                  · subst e
                    rw [Hxy.out] at hpq
                    injection hpq with h1 h2
                    have e1 : p = x := by omega
                    have e2 : q = y := by omega
                    rw [e1, e2, Ha.out, Hb.out, hab]
                  · exact (HS.out.1 h).2 j (by omega) p q hpq⟩, HS.out.2⟩
                clear hab HS
                go_wp2
                exact ⟨⟨k + 1, lab2, bq, by omega, by go_num, rfl, HL, HS2, Hown5, Hb5⟩, by simp [intOf]; omega⟩
              · have hab : a ≠ b := by simpa using q1
                obtain ⟨z, Hz⟩ : ∃ z, Hid (min a b = z) := ⟨_, rfl⟩
                have hz1 : (if b < a then b else a) = z := by rw [← Hz.out]; split <;> omega
                have hz2 : min a b = z := Hz.out
                have hrel2 := HL.out.relax (z := z) (by rw [Hm.out]; exact hlt) Hxy.out hx hy (by rw [Ha.out, Hb.out]; exact hab) (by rw [Ha.out, Hb.out]; exact Hz.out.symm)
                have HL2 := Lib.hid hrel2.1
                have HS2 : Hid ((true = false → sumL ((lab2.set x z).set y z) = sumL labs ∧ ∀ j, j < k + 1 → ∀ p q : Nat, es.getD j (0, 0) = ((p : Int), (q : Int)) → ((lab2.set x z).set y z).getD p 0 = ((lab2.set x z).set y z).getD q 0) ∧ (true = true → sumL ((lab2.set x z).set y z) < sumL labs)) := ⟨fun h => (by cases h), fun _ => by
                  have h1 := hrel2.2
                  have h2 := HS.out
                  cases bq
                  · have := (h2.1 rfl).1; omega
                  · have := h2.2 rfl; omega⟩
                have hown6 := own_setI Hown5.out HL.out.len hx z
                have hown7 := Lib.hid (own_setI hown6 (by rw [List.length_set]; exact HL.out.len) hy z)
                have hge := (Hown5.out.lt g0 rfl).1
                have Hb7 := Lib.hid ((Hb5.out.setCell (p := ⟨g0, x, none⟩) hge (.int .i64 z)).setCell (p := ⟨g0, y, none⟩) hge (.int .i64 z))
                obtain ⟨cur, hB5, _⟩ := own_blkC Hown5.out
                have hgl := hB5.lt
                have fz0 := hB5.frozen x
                have fz1 := (hB5.set_ x (.int .i64 z)).frozen y
                have n0 := own_cellI Hown5.out HL.out.len hx
                have n1 := own_cellI hown6 (by rw [List.length_set]; exact HL.out.len) hy
                obtain ⟨_, _, hre, hb9, hc9⟩ := (Hre.out w5 Hb5.out).pos (by rw [Hm.out]; omega)
                injection hre with hre
                injection hre with hre1 hre2 _
                subst hre1; subst hre2
                obtain ⟨m0, m1⟩ := hc9 k (by rw [Hm.out]; exact hlt)
                rw [Hxy.out] at m0 m1
                dsimp only at m0 m1
                have hbg : bb ≠ g0 := by
                  intro e
                  obtain ⟨_, _, hre2, hb8, _⟩ := (Hre.out w (Below.refl _ _)).pos (by rw [Hm.out]; omega)
                  injection hre2 with hre2
                  injection hre2 with hre3 _ _
                  omega
                have m2 : (w5.setCell ⟨g0, x, none⟩ (.int .i64 z)).cell? ⟨bb, off + k * 2 + 1, none⟩ = some (.int .i64 (y : Int)) := (sc_other (by intro e; injection e with e1 _ _; exact hbg e1.symm)).trans m1
                clear hab HS hrel2 hown6 hc9 hB5 hge m1
                go_wp2
                exact ⟨⟨k + 1, (lab2.set x z).set y z, true, by omega, by go_num, rfl, HL2, HS2, hown7, Hb7⟩, by simp [intOf]; omega⟩
            · obtain rfl : L = k := by omega
              have Hsum2 := Lib.hid (sumW_own Hown.out HL.out.len)
              have hS := HS.out
              have HS3 : Hid (bq = false → ∀ j, j < L → ∀ x y : Nat, es.getD j (0, 0) = ((x : Int), (y : Int)) → lab2.getD x 0 = lab2.getD y 0) := fun h => (hS.1 h).2
              go_wp2
              refine ⟨⟨lab2, bq, rfl, HL, HS3, Hown, Hbel⟩, ?_⟩
              rw [Hsum.out, Hsum2.out]
              cases bq
              · have := (hS.1 rfl).1; simp; omega
              · have := hS.2 rfl; simp; omega

open Classical in
theorem partsN_succ (es : List (Int × Int)) (p : Nat → Bool) (k : Nat) : partsN es p (k + 1) = if Least es p k then partsN es p k + 1 else partsN es p k := by
  unfold partsN
  rw [List.range_succ, List.filter_append, List.length_append]
  by_cases h : Least es p k
  · rw [if_pos h]
    have : List.filter (fun v => decide (Least es p v)) [k] = [k] := by simp only [List.filter_cons, List.filter_nil, decide_eq_true h, if_true]
    rw [this]; rfl
  · rw [if_neg h]
    have : List.filter (fun v => decide (Least es p v)) [k] = [] := by simp only [List.filter_cons, List.filter_nil, decide_eq_false h]; rfl
    rw [this]; rfl
theorem partsN_le (es : List (Int × Int)) (p : Nat → Bool) (N : Nat) : partsN es p N ≤ N := by
  unfold partsN
  have := List.length_filter_le (fun v => @decide (Least es p v) (Classical.propDecidable _)) (List.range N)
  rw [List.length_range] at this
  exact this
set_option maxHeartbeats 4000000 in
theorem l01Parts_b (N : Nat) (A : Option Addr) (c : Nat) (es : List (Int × Int)) (w : World) (hN : N ≤ 1000) (hl : es.length ≤ 1048576) (hin : InN N es) (hr : RdE w A es) :
    Calls Try.prog 73 #[.int .i64 N, .slice A es.length c] w fun e w' => e = .returned (.int .i64 (partsN es allP N)) ∧ Below w.heap.size w w' := by
  have CL := l01Leaders_b N A c es w hN hl hin hr
  have Hin := Lib.hid hin
  clear hr hin hl
  generalize hL9 : es.length = L at *
  have HL9 := Lib.hid hL9
  clear hL9
  go_enter Try.func73, Try.ntmps73
  go_wp2_with fail
  refine CL.mono ?_
  rintro e w1 ⟨A1, c1, rfl, out, hL, hsame, hown, hb1⟩
  have HR := Lib.hid (own_rdI hown)
  have Hlen := Lib.hid hL.len
  have Hb1 := Lib.hid hb1
  have Hlst : Hid (∀ v, v < N → (out.getD v 0 = v ↔ Least es allP v)) := fun v hv => hL.least Hin.out (by rw [HL9.out]; exact hsame) hv
  have Hps : Hid (∀ k, (Least es allP k → partsN es allP (k + 1) = partsN es allP k + 1) ∧ (¬ Least es allP k → partsN es allP (k + 1) = partsN es allP k)) := fun k => ⟨fun h => by rw [partsN_succ, if_pos h], fun h => by rw [partsN_succ, if_neg h]⟩
  have Hpl : Hid (∀ k, partsN es allP k ≤ k) := fun k => partsN_le es allP k
  clear hL hsame hown hb1 CL
  go_wp2_with fail
  go_loopw [6, 7] (fun m i wr => ∃ k : Nat, k ≤ N ∧ m = .int .i64 (partsN es allP k : Nat) ∧ i = .int .i64 k ∧ w1 = wr) (fun _ i _ => N - (intOf i).toNat)
  case atStart => exact ⟨0, Nat.zero_le _, by simp [partsN], rfl, rfl⟩
  case round =>
    obtain ⟨k, hk, rfl, rfl, rfl⟩ := hrel
    by_cases hlt : k < N
    · obtain ⟨ek, ek2, ek3⟩ := idxF k N hlt
      obtain ⟨b, off, rfl, hb, hc⟩ := HR.out.pos (by rw [Hlen.out]; omega)
      have hck := hc k (by rw [Hlen.out]; exact hlt)
      obtain ⟨u, Hu⟩ : ∃ u, Hid (out.getD k 0 = u) := ⟨_, rfl⟩
      rw [Hu.out] at hck
      have hpk := Hpl.out k
      have Hlk := Lib.hid (Hlst.out k hlt)
      have Hpk := Lib.hid (Hps.out k)
      clear hc
      obtain ⟨P, HP⟩ : ∃ P, Hid (partsN es allP k = P) := ⟨_, rfl⟩
      rw [HP.out] at hpk
      simp only [HP.out]
      cases q1 : (u == (k : Int))
      · have hn : ¬ u = (k : Int) := by simpa using q1
        have Hn : Hid (partsN es allP (k + 1) = P) := by show _ = _; rw [Hpk.out.2 (fun h => hn (Hu.out.symm.trans (Hlk.out.2 h))), HP.out]
        clear hn
        go_wp2
        exact ⟨⟨k + 1, by omega, by rw [Hn.out], by go_num, trivial⟩, by simp [intOf]; omega⟩
      · have hn : u = (k : Int) := by simpa using q1
        have Hn : Hid (partsN es allP (k + 1) = P + 1) := by show _ = _; rw [Hpk.out.1 (Hlk.out.1 (Hu.out.trans hn)), HP.out]
        have w9 : wrap64 ((P : Int) + 1) = ((P + 1 : Nat) : Int) := by rw [wrap64_small (by omega) (by omega)]; omega
        clear hn
        go_wp2
        exact ⟨⟨k + 1, by omega, by rw [Hn.out]; first | rfl | (rw [w9]) | (congr 1), by go_num, trivial⟩, by simp [intOf]; omega⟩
    · obtain rfl : N = k := by omega
      go_wp2
      go_ret
      exact ⟨rfl, Hb1.out⟩
theorem l01Connected_b (N : Nat) (A : Option Addr) (c : Nat) (es : List (Int × Int)) (w : World) (q : Bool) (hq : Hid (decide (partsN es allP N = 1) = q)) (hN : N ≤ 1000) (hl : es.length ≤ 1048576) (hin : InN N es) (hr : RdE w A es) :
    Calls Try.prog 41 #[.agg #[.int .i64 N, .slice A es.length c]] w fun e w' => e = .returned (.bool q) ∧ Below w.heap.size w w' := by
  have c1 := Lib.hid fun W (hW : Below w.heap.size w W) => l01Parts_b N A c es W hN hl hin (hr.below hW)
  obtain ⟨P, HP⟩ : ∃ P, Hid (partsN es allP N = P) := ⟨_, rfl⟩
  rw [HP.out] at hq
  simp only [HP.out] at c1
  have h9 : ((P : Int) == 1) = q := by rw [← hq.out, Bool.eq_iff_iff]; simp; omega
  clear hq hin hr hl
  generalize es.length = L at *
  have B0 : Below w.heap.size w (w.alloc (.cells #[.int .i64 (N : Int), .slice A L c] 32)) := by (repeat' (first | (with_reducible exact Below.refl _ _) | (with_reducible assumption) | (with_reducible refine Below.alloc ?_ ?_ _) | (with_reducible refine Below.drew ?_) | (with_reducible refine below_drewN ?_ _) | (with_reducible refine Below.setCell ?_ ?_ _) | (with_reducible refine Below.trans ?_ (Below.mono (by assumption) ?_)) | (first | omega | (simp only [World.size_alloc, World.size_setCell, World.size_drew]; omega) | (simp; omega) | (simp; done))))
  go_enter Try.func41, Try.ntmps41
  go_wp2_with fail
  refine (c1.out _ B0).mono ?_
  rintro e w1 ⟨rfl, hb1⟩
  go_wp2
  go_ret
  exact ⟨rfl, B0.trans (hb1.mono B0.size)⟩
end Go.Proofs.Ytigdfcigoejjjaa
