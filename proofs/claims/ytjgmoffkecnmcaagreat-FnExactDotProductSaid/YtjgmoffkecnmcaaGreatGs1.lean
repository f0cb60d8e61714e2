/- compareEdges for the sort; the order of edges is strict and total; a slice of edges that the call owns is sorted. No statement of the program is proved here. -/
/- slices.SortFunc at edges that the call owns. No statement of the program is proved here. -/
import Derived.Test.YtjgmoffkecnmcaaGreatSh
import Derived.StillTailTactics
namespace Go.Proofs.YtjgmoffkecnmcaaGreat
open Go.RowKit Go.Shelf Go.Lib Go.Sort
set_option linter.unusedSimpArgs false
set_option linter.unusedVariables false
set_option maxRecDepth 20000

set_option maxHeartbeats 1000000 in
theorem compareEdges_g (a b c d : Int) (w : World) (r : Int) (hr : Hid (cmpE (a, b) (c, d) = r)) :
    Calls Tryz.prog 58 #[.agg #[.int .i64 a, .int .i64 b], .agg #[.int .i64 c, .int .i64 d]] w fun e w' => e = .returned (.int .i64 r) ∧ ∃ q os', w' = grow (w.drewN q) os' := by
  have hr' : Hid (cmpL [a, b] [c, d] = r) := by show _ = _; rw [cmpL_two]; exact hr.out
  have hcall : ∀ W, W.cell? ⟨w.heap.size, 0, none⟩ = some (.int .i64 a) → W.cell? ⟨w.heap.size, 1, none⟩ = some (.int .i64 b) → W.cell? ⟨w.heap.size + 1, 0, none⟩ = some (.int .i64 c) → W.cell? ⟨w.heap.size + 1, 1, none⟩ = some (.int .i64 d) → w.heap.size + 1 < W.heap.size →
      Calls Tryz.prog 78 #[.slice (some ⟨w.heap.size, 0, none⟩) 2 2, .slice (some ⟨w.heap.size + 1, 0, none⟩) 2 2] W fun e w' => e = .returned (.int .i64 r) ∧ W = w' := by
    intro W h1 h2 h3 h4 h5
    refine slicesCompare_b _ _ 2 2 2 2 [a, b] [c, d] W r hr' rfl rfl (by omega) (by omega) (.inr ⟨_, 0, rfl, by omega, ?_⟩) (.inr ⟨_, 0, rfl, by omega, ?_⟩)
    · intro j hj
      match j, hj with
      | 0, _ => simpa using h1
      | 1, _ => simpa using h2
    · intro j hj
      match j, hj with
      | 0, _ => simpa using h3
      | 1, _ => simpa using h4
  have Hcall := Lib.hid hcall; clear hcall hr hr'
  go_enter Tryz.func58, Tryz.ntmps58
  go_wp2
  refine wp_region_noPanic ?_
  refine wp_region_held_drew (S := (fun w' => w' = ((w.alloc (.cells #[.int .i64 a, .int .i64 b] 40)).alloc (.cells #[.int .i64 c, .int .i64 d] 40)).drew ∧ w'.cell? ⟨w.heap.size, 0, none⟩ = some (.int .i64 a) ∧ w'.cell? ⟨w.heap.size, 1, none⟩ = some (.int .i64 b) ∧ w'.cell? ⟨w.heap.size + 1, 0, none⟩ = some (.int .i64 c) ∧ w'.cell? ⟨w.heap.size + 1, 1, none⟩ = some (.int .i64 d) ∧ w.heap.size + 1 < w'.heap.size)) (by kernel_rfl) ?_ (fun hHeld => ?_)
  · (try dsimp only); (first | assumption | exact ⟨rfl, by simp, by simp, by simp, by simp, by simp⟩)
  refine wpAnyH_take_d (i := 0) (d := some 5) (v := ?v1) rfl rfl (by kernel_rfl) (by kernel_rfl) (by kernel_rfl) (fun _ _ _ h => h) (Or.inl ⟨by kernel_rfl, ?y1⟩) (by assumption) ?_
  case y1 => (intro w' hSw; (try dsimp only at hSw); go_simp; try with_reducible rfl)
  try simp only [Act.put, List.setIfInBounds_toArray, List.set_cons_zero, List.set_cons_succ]
  refine wpAnyH_take_d (i := 1) (d := some 6) (v := ?v2) rfl rfl (by kernel_rfl) (by kernel_rfl) (by kernel_rfl) (fun _ _ _ h => h) (Or.inl ⟨by kernel_rfl, ?y2⟩) (by assumption) ?_
  case y2 => (intro w' hSw; (try dsimp only at hSw); go_simp; try with_reducible rfl)
  try simp only [Act.put, List.setIfInBounds_toArray, List.set_cons_zero, List.set_cons_succ]
  refine wpAnyH_ready (rs := [2]) (by kernel_rfl) (by simp) ?_
  refine AllReadyH.cons rfl (fun K hK => ?_) AllReadyH.nil
  go_simp
  refine (Hcall.out _ (by simp) (by simp) (by simp) (by simp) (by simp)).mono ?_; rintro e w2 ⟨rfl, rfl⟩
  refine hK.out _ _ ?s3 (fun hHeld3 => ?_)
  case s3 => ((try dsimp only); (first | assumption | exact ⟨rfl, by simp, by simp, by simp, by simp, by simp⟩))
  clear hK K hHeld
  have hHeld := hHeld3; clear hHeld3
  try simp only [Act.put, List.setIfInBounds_toArray, List.set_cons_zero, List.set_cons_succ]
  refine wpAnyH_take_d (i := 3) (d := some 4) (v := ?v4) rfl rfl (by kernel_rfl) (by kernel_rfl) (by kernel_rfl) (fun _ _ _ h => h) (Or.inl ⟨by kernel_rfl, ?y4⟩) (by assumption) ?_
  case y4 => (intro w' hSw; (try dsimp only at hSw); go_simp; try with_reducible rfl)
  try simp only [Act.put, List.setIfInBounds_toArray, List.set_cons_zero, List.set_cons_succ]
  refine wpAnyH_done (by kernel_rfl) ?_ _
  refine NoPanic.normal ?_
  go_wp2
  go_ret
  exact ⟨rfl, 1, _, by rw [alloc_eq_grow, alloc_eq_grow, grow_grow]; rfl⟩
end Go.Proofs.YtjgmoffkecnmcaaGreat
namespace Go.Proofs.YtjgmoffkecnmcaaGreat
open Go.RowKit Go.Shelf Go.Lib Go.Sort
set_option linter.unusedSimpArgs false
set_option linter.unusedVariables false
set_option maxRecDepth 20000

theorem ltOf_cmpE (x y : Int × Int) : ltOf cmpE x y = !leE y x := by unfold ltOf leE; simp
theorem swoE : SWO (ltOf cmpE) where
  irrefl x := by unfold ltOf; rw [decide_eq_false_iff_not, cmpE_neg]; omega
  trans x y z h1 h2 := by unfold ltOf at *; rw [decide_eq_true_eq, cmpE_neg] at *; omega
  ntrans x y z h1 h2 := by unfold ltOf at *; rw [decide_eq_false_iff_not, cmpE_neg] at *; omega
theorem totE (x y : Int × Int) (h1 : ltOf cmpE x y = false) (h2 : ltOf cmpE y x = false) : x = y := by
  rw [ltOf_cmpE, Bool.not_eq_false'] at h1 h2
  exact leE_anti x y h2 h1
/-- The cells of an edge. -/
def encE (e : Int × Int) : List Value := [.int .i64 e.1, .int .i64 e.2]
theorem encE_one (x : Int × Int) : ∀ v ∈ encE x, v.oneCell' = true := by
  intro v hv
  simp [encE] at hv
  rcases hv with rfl | rfl <;> rfl
theorem flat_cE (es : List (Int × Int)) : flatK encE 2 es.toArray = (cE es).toArray := by
  refine ext_get! (by simp [length_cE]) fun t ht => ?_
  have ht2 : t < es.length * 2 := by simpa using ht
  rw [get_flatK _ _ _ t (by simpa using ht2)]
  obtain ⟨i, rfl | rfl⟩ : ∃ i, t = i * 2 ∨ t = i * 2 + 1 := ⟨t / 2, by omega⟩
  · have h1 : i * 2 / 2 = i := by omega
    have h2 : i * 2 % 2 = 0 := by omega
    have h3 := getD_cE0 es i (by omega)
    rw [h1, h2, getElem!_def]
    simp [encE, h3, List.getD, show i < es.length by omega]
  · have h1 : (i * 2 + 1) / 2 = i := by omega
    have h2 : (i * 2 + 1) % 2 = 1 := by omega
    have h3 := getD_cE1 es i (by omega)
    rw [h1, h2, getElem!_def]
    simp [encE, h3, List.getD, show i < es.length by omega]
theorem own_blkE {w : World} {base : Nat} {e : TypeId} {n c g : Nat} {es : List (Int × Int)} (h : w.ownsRow base e 2 (.slice (some ⟨g, 0, none⟩) n c) n (cE es)) :
    ∃ cur, Blk w g e cur ∧ base ≤ g ∧ n ≤ c ∧ c ≤ maxLen ∧ cur.size = c * 2 ∧ cur.toList.take (n * 2) = cE es := by
  rcases h.2 with ⟨h1, _⟩ | ⟨g', cap, cur, hv, hge, hh, h6, h7, h8, ht⟩
  · cases h1
  · injection hv with h1 h2 h3
    injection h1 with h1
    injection h1 with h1 _ _
    subst h1; subst h3
    exact ⟨cur, hh, hge, h6, h7, h8, ht⟩
theorem own_holdsE {w : World} {base : Nat} {e : TypeId} {n c g : Nat} {es : List (Int × Int)} (h : w.ownsRow base e 2 (.slice (some ⟨g, 0, none⟩) n c) n (cE es)) : HoldsK encE 2 w g 0 es.toArray := by
  obtain ⟨cur, hB, _, h6, _, h8, ht⟩ := own_blkE h
  unfold HoldsK
  rw [flat_cE]
  intro t ht2
  have ht3 : t < (cE es).length := by simpa using ht2
  have hl : (cE es).length = n * 2 := h.1
  refine ⟨?_, hB.frozen _⟩
  rw [Nat.zero_add, hB.cell]
  have h9 : cur[t]? = (cE es)[t]? := by rw [← ht, List.getElem?_take_of_lt (by omega), Array.getElem?_toList]
  rw [h9]
  simp [ht3]
theorem heap_mapBlock_same {w : World} {b : Nat} {f : Array Value → Array Value} {c : Array Value} {e : TypeId} {fr : Nat × Nat} (h : w.heap[b]? = some (.cells c e fr)) : (mapBlock w b f).heap[b]? = some (.cells (f c) e fr) := by
  unfold mapBlock
  simp [Array.getElem?_modify, h, onCells]
theorem heap_mapBlock_other {w : World} {b k : Nat} {f : Array Value → Array Value} (h : b ≠ k) : (mapBlock w b f).heap[k]? = w.heap[k]? := by
  unfold mapBlock
  simp [Array.getElem?_modify, h]
theorem putCells_take {F cur : Array Value} (h : F.size ≤ cur.size) : (putCells id 0 F cur).toList.take F.size = F.toList := by
  apply List.ext_getElem?
  intro i
  by_cases hi : i < F.size
  · rw [List.getElem?_take_of_lt hi, Array.getElem?_toList, Array.getElem?_toList]
    unfold putCells
    simp only [Array.getElem?_mapIdx]
    rw [Array.getElem?_eq_getElem (show i < cur.size by omega)]
    simp [hi]
  · rw [List.getElem?_eq_none (by simp; omega), List.getElem?_eq_none (by simp; omega)]
theorem own_sortW {w : World} {base : Nat} {e : TypeId} {n c g : Nat} {es ds : List (Int × Int)} (h : w.ownsRow base e 2 (.slice (some ⟨g, 0, none⟩) n c) n (cE es)) (hd : ds.length = es.length) (m : Nat) (os : Array Obj) :
    (sortWorldK encE 2 w g 0 m ds.toArray os).ownsRow base e 2 (.slice (some ⟨g, 0, none⟩) n c) n (cE ds) ∧ Below base w (sortWorldK encE 2 w g 0 m ds.toArray os) := by
  obtain ⟨cur, hB, hge, h6, h7, h8, ht⟩ := own_blkE h
  have hl : (cE es).length = n * 2 := h.1
  have hl2 : (cE ds).length = n * 2 := by rw [← hl, length_cE, length_cE, hd]
  have hz : g < (putRowK encE 2 (Sort.ahead w m) g 0 ds.toArray).heap.size := by
    unfold putRowK
    rw [size_putRow]
    exact hB.lt
  have hs : (flatK encE 2 ds.toArray).size = n * 2 := by rw [flat_cE]; simpa using hl2
  have hb : (putRowK encE 2 (Sort.ahead w m) g 0 ds.toArray).heap[g]? = some (.cells (putCells id 0 (flatK encE 2 ds.toArray) cur) e (0, 0)) := heap_mapBlock_same hB
  refine ⟨⟨hl2, .inr ⟨g, c, putCells id 0 (flatK encE 2 ds.toArray) cur, rfl, hge, ?_, h6, h7, ?_, ?_⟩⟩, ?_⟩
  · unfold sortWorldK
    rw [heap_grow_old _ _ hz]
    exact hb
  · unfold putCells; simpa using h8
  · have h9 := putCells_take (F := flatK encE 2 ds.toArray) (cur := cur) (by rw [hs, h8]; omega)
    rw [hs] at h9
    rw [h9, flat_cE]
  · refine ⟨rfl, rfl, rfl, ?_, fun k hk => ?_⟩
    · unfold sortWorldK
      rw [size_grow]
      unfold putRowK
      rw [size_putRow]
      exact Nat.le_add_right _ _
    · unfold sortWorldK
      rw [heap_grow_old _ _ (by unfold putRowK; rw [size_putRow]; exact Nat.lt_trans (by omega) hB.lt)]
      unfold putRowK putRow
      rw [heap_mapBlock_other (by omega)]
      rfl
theorem cmpLaysE (blk off size : Nat) (w : World) : CmpLays Tryz.prog 58 #[] encE 2 cmpE blk off size w :=
  fun _ _ _ _ x y => compareEdges_g x.1 x.2 y.1 y.2 _ _ (Lib.hid rfl)
theorem ent_compareEdges : Ent 58 := enters_of Tryz.func58 (by kernel_rfl) rfl
theorem sortFunc_b {w : World} {base n c g : Nat} {es : List (Int × Int)} (h : w.ownsRow base 40 2 (.slice (some ⟨g, 0, none⟩) n c) n (cE es)) (hn : es.length = n) (h1 : n ≤ 1000000) :
    Calls Tryz.prog 57 #[.slice (some ⟨g, 0, none⟩) n c, .func (.func 58) #[] #[]] w fun e w' => e = .returned (.tuple #[]) ∧ w'.ownsRow base 40 2 (.slice (some ⟨g, 0, none⟩) n c) n (cE (sortE es)) ∧ Below base w w' := by
  subst hn
  obtain ⟨cur, hB, _⟩ := own_blkE h
  have hcon := AnyQ.slices_SortFunc_total edgeSort 2 Tryz.isAgg40 Tryz.sizeOf40 encE (fun _ => rfl) encE_one cmpE swoE 58 #[] g 0 c es.toArray w ent_compareEdges (cmpLaysE _ _ _ _) (own_holdsE h) hB.lt (by simp; omega) totE
  refine hcon.mono fun e w' hh => ?_
  obtain ⟨he, m, os, hw⟩ := hh
  refine ⟨he, ?_⟩
  have h9 := own_sortW (ds := sortE es) h (sortE_len es) m os
  rw [hw]
  exact h9
end Go.Proofs.YtjgmoffkecnmcaaGreat
