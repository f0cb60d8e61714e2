/- compareEdges for the sort; the order of edges is strict and total; a slice of edges that the call owns is sorted. No statement of the program is proved here. -/
import Derived.Test.YtblidpodbpoaeaaSh
import Derived.StillTailTactics
namespace Go.Proofs.Ytblidpodbpoaeaa
open Go.RowKit Go.Shelf Go.Lib Go.Sort
set_option linter.unusedSimpArgs false
set_option linter.unusedVariables false
set_option maxRecDepth 20000

set_option maxHeartbeats 1000000 in
theorem compareEdges_g (a b c d : Int) (w : World) (r : Int) (hr : Hid (cmpE (a, b) (c, d) = r)) :
    Calls Try.prog 82 #[.agg #[.int .i64 a, .int .i64 b], .agg #[.int .i64 c, .int .i64 d]] w fun e w' => e = .returned (.int .i64 r) ∧ ∃ q os', w' = grow (w.drewN q) os' := by
  have hr' : Hid (cmpL [a, b] [c, d] = r) := by show _ = _; rw [cmpL_two]; exact hr.out
  have hcall : ∀ W, W.cell? ⟨w.heap.size, 0, none⟩ = some (.int .i64 a) → W.cell? ⟨w.heap.size, 1, none⟩ = some (.int .i64 b) → W.cell? ⟨w.heap.size + 1, 0, none⟩ = some (.int .i64 c) → W.cell? ⟨w.heap.size + 1, 1, none⟩ = some (.int .i64 d) → w.heap.size + 1 < W.heap.size →
      Calls Try.prog 100 #[.slice (some ⟨w.heap.size, 0, none⟩) 2 2, .slice (some ⟨w.heap.size + 1, 0, none⟩) 2 2] W fun e w' => e = .returned (.int .i64 r) ∧ W = w' := by
    intro W h1 h2 h3 h4 h5
    refine slicesCompare_b _ _ 2 2 2 2 [a, b] [c, d] W r hr' rfl rfl (by omega) (by omega) (.inr ⟨_, 0, rfl, by omega, ?_⟩) (.inr ⟨_, 0, rfl, by omega, ?_⟩)
    · intro j hj
      match j, hj with
      | 0, _ => simpa using h1
      | 1, _ => simpa using h2
    · intro j hj
      match j, hj with
      | 0, _ => simpa using h3
      | 1, _ => simpa using h4
  have Hcall := Lib.hid hcall; clear hcall hr hr'
  go_enter Try.func82, Try.ntmps82
  go_wp2
  refine wp_region_noPanic ?_
  refine wp_region_held_drew (S := (fun w' => w' = ((w.alloc (.cells #[.int .i64 a, .int .i64 b] 54)).alloc (.cells #[.int .i64 c, .int .i64 d] 54)).drew ∧ w'.cell? ⟨w.heap.size, 0, none⟩ = some (.int .i64 a) ∧ w'.cell? ⟨w.heap.size, 1, none⟩ = some (.int .i64 b) ∧ w'.cell? ⟨w.heap.size + 1, 0, none⟩ = some (.int .i64 c) ∧ w'.cell? ⟨w.heap.size + 1, 1, none⟩ = some (.int .i64 d) ∧ w.heap.size + 1 < w'.heap.size)) (by kernel_rfl) ?_ (fun hHeld => ?_)
  · (try dsimp only); (first | assumption | exact ⟨rfl, by simp, by simp, by simp, by simp, by simp⟩)
  refine wpAnyH_take_d (i := 0) (d := some 5) (v := ?v1) rfl rfl (by kernel_rfl) (by kernel_rfl) (by kernel_rfl) (fun _ _ _ h => h) (Or.inl ⟨by kernel_rfl, ?y1⟩) (by assumption) ?_
  case y1 => (intro w' hSw; (try dsimp only at hSw); go_simp; try with_reducible rfl)
  try simp only [Act.put, List.setIfInBounds_toArray, List.set_cons_zero, List.set_cons_succ]
  refine wpAnyH_take_d (i := 1) (d := some 6) (v := ?v2) rfl rfl (by kernel_rfl) (by kernel_rfl) (by kernel_rfl) (fun _ _ _ h => h) (Or.inl ⟨by kernel_rfl, ?y2⟩) (by assumption) ?_
  case y2 => (intro w' hSw; (try dsimp only at hSw); go_simp; try with_reducible rfl)
  try simp only [Act.put, List.setIfInBounds_toArray, List.set_cons_zero, List.set_cons_succ]
  refine wpAnyH_ready (rs := [2]) (by kernel_rfl) (by simp) ?_
  refine AllReadyH.cons rfl (fun K hK => ?_) AllReadyH.nil
  go_simp
  refine (Hcall.out _ (by simp) (by simp) (by simp) (by simp) (by simp)).mono ?_; rintro e w2 ⟨rfl, rfl⟩
  refine hK.out _ _ ?s3 (fun hHeld3 => ?_)
  case s3 => ((try dsimp only); (first | assumption | exact ⟨rfl, by simp, by simp, by simp, by simp, by simp⟩))
  clear hK K hHeld
  have hHeld := hHeld3; clear hHeld3
  try simp only [Act.put, List.setIfInBounds_toArray, List.set_cons_zero, List.set_cons_succ]
  refine wpAnyH_take_d (i := 3) (d := some 4) (v := ?v4) rfl rfl (by kernel_rfl) (by kernel_rfl) (by kernel_rfl) (fun _ _ _ h => h) (Or.inl ⟨by kernel_rfl, ?y4⟩) (by assumption) ?_
  case y4 => (intro w' hSw; (try dsimp only at hSw); go_simp; try with_reducible rfl)
  try simp only [Act.put, List.setIfInBounds_toArray, List.set_cons_zero, List.set_cons_succ]
  refine wpAnyH_done (by kernel_rfl) ?_ _
  refine NoPanic.normal ?_
  go_wp2
  go_ret
  exact ⟨rfl, 1, _, by rw [alloc_eq_grow, alloc_eq_grow, grow_grow]; rfl⟩
end Go.Proofs.Ytblidpodbpoaeaa
