/- slices.SortFunc at int64, by a function that takes the lesser from the greater: a slice of small numbers that the call owns, in falling order. No statement of the program is proved here. -/
import Derived.Test.YtblidpodbpoaeaaSi
import Derived.Test.YtblidpodbpoaeaaAp1
import Derived.Test.YtblidpodbpoaeaaGs1
namespace Go.Proofs.Ytblidpodbpoaeaa
open Go.RowKit Go.Shelf Go.Lib Go.Sort
set_option linter.unusedSimpArgs false
set_option linter.unusedVariables false
set_option maxRecDepth 20000

def cmpD (x y : Fin 64) : Int := (y.val : Int) - (x.val : Int)
theorem swoD : SWO (ltOf cmpD) where
  irrefl x := by unfold ltOf cmpD; rw [decide_eq_false_iff_not]; omega
  trans x y z h1 h2 := by unfold ltOf cmpD at *; rw [decide_eq_true_eq] at *; omega
  ntrans x y z h1 h2 := by unfold ltOf cmpD at *; rw [decide_eq_false_iff_not] at *; omega
theorem totD (x y : Fin 64) (h1 : ltOf cmpD x y = false) (h2 : ltOf cmpD y x = false) : x = y := by
  unfold ltOf cmpD at *
  rw [decide_eq_false_iff_not] at h1 h2
  exact Fin.ext (by omega)
def encD (x : Fin 64) : Value := .int .i64 (x.val : Int)
theorem encD_one : OneCell encD := fun _ => rfl
/-- The numbers, as Ints. -/
def valD (xs : List (Fin 64)) : List Int := xs.map fun x => (x.val : Int)
/-- In falling order. -/
def sortD (xs : List (Fin 64)) : List (Fin 64) := xs.mergeSort fun x y => !(ltOf cmpD) y x
theorem sortD_len (xs : List (Fin 64)) : (sortD xs).length = xs.length := by simp [sortD]
theorem sortD_perm (xs : List (Fin 64)) : (sortD xs).Perm xs := List.mergeSort_perm _ _
theorem sortD_sorted (xs : List (Fin 64)) : (valD (sortD xs)).Pairwise (fun a b => a ≥ b) := by
  have h : (sortD xs).Pairwise (fun a b => (!(ltOf cmpD) b a) = true) := List.pairwise_mergeSort (le := fun x y => !(ltOf cmpD) y x)
    (fun a b c h1 h2 => by unfold ltOf cmpD at *; simp only [Bool.not_eq_true', decide_eq_false_iff_not] at *; omega)
    (fun a b => by unfold ltOf cmpD; simp only [Bool.or_eq_true, Bool.not_eq_true', decide_eq_false_iff_not]; omega) xs
  unfold valD
  rw [List.pairwise_map]
  refine h.imp fun {a b} h => ?_
  unfold ltOf cmpD at h
  simp only [Bool.not_eq_true', decide_eq_false_iff_not] at h
  omega

theorem ent_cycle1 : Ent 79 := enters_of Try.func79 (by kernel_rfl) rfl
theorem cycle1_b (x y : Fin 64) (w : World) :
    Calls Try.prog 79 #[.int .i64 (x.val : Int), .int .i64 (y.val : Int)] w fun e w' => e = .returned (.int .i64 (cmpD x y)) ∧ w' = w := by
  have hw : wrap64 ((y.val : Int) - (x.val : Int)) = (y.val : Int) - (x.val : Int) := wrap64_small (by omega) (by omega)
  unfold cmpD
  generalize (x.val : Int) = a at *
  generalize (y.val : Int) = b at *
  go_enter Try.func79, Try.ntmps79
  go_wp2
  go_ret
  refine ⟨?_, rfl⟩
  first | rfl | (show Ending.returned (.int .i64 (wrap64 _)) = _; rw [hw])
theorem own_blkI {w : World} {base : Nat} {e : TypeId} {n c g : Nat} {xs : List Int} (h : w.ownsRow base e 1 (.slice (some ⟨g, 0, none⟩) n c) n (cI xs)) :
    ∃ cur, Blk w g e cur ∧ base ≤ g ∧ n ≤ c ∧ c ≤ maxLen ∧ cur.size = c * 1 ∧ cur.toList.take (n * 1) = cI xs := by
  rcases h.2 with ⟨h1, _⟩ | ⟨g', cap, cur, hv, hge, hh, h6, h7, h8, ht⟩
  · cases h1
  · injection hv with h1 h2 h3
    injection h1 with h1
    injection h1 with h1 _ _
    subst h1; subst h3
    exact ⟨cur, hh, hge, h6, h7, h8, ht⟩
theorem cI_valD (xs : List (Fin 64)) : cI (valD xs) = xs.map encD := by simp [cI, valD, encD, Function.comp_def]
theorem putCellsD_take {d : Array (Fin 64)} {cur : Array Value} (h : d.size ≤ cur.size) : (putCells encD 0 d cur).toList.take d.size = d.toList.map encD := by
  apply List.ext_getElem?
  intro i
  by_cases hi : i < d.size
  · rw [List.getElem?_take_of_lt hi, Array.getElem?_toList]
    unfold putCells
    simp only [Array.getElem?_mapIdx]
    rw [Array.getElem?_eq_getElem (show i < cur.size by omega)]
    simp [hi]
  · rw [List.getElem?_eq_none (by simp; omega), List.getElem?_eq_none (by simp; omega)]
theorem own_holdsD {w : World} {base : Nat} {e : TypeId} {n c g : Nat} {xs : List (Fin 64)} (h : w.ownsRow base e 1 (.slice (some ⟨g, 0, none⟩) n c) n (cI (valD xs))) : Holds encD w g 0 xs.toArray := by
  obtain ⟨cur, hB, _, h6, _, h8, ht⟩ := own_blkI h
  have hl : (cI (valD xs)).length = n * 1 := h.1
  rw [cI_valD] at ht hl
  intro j hj
  have hj2 : j < xs.length := by simpa using hj
  rw [List.length_map] at hl
  refine ⟨?_, hB.frozen _⟩
  rw [Nat.zero_add, hB.cell]
  have h9 : cur[j]? = (xs.map encD)[j]? := by rw [← ht, List.getElem?_take_of_lt (by omega), Array.getElem?_toList]
  rw [h9]
  simp [hj2]
theorem own_sortD {w : World} {base : Nat} {e : TypeId} {n c g : Nat} {xs ds : List (Fin 64)} (h : w.ownsRow base e 1 (.slice (some ⟨g, 0, none⟩) n c) n (cI (valD xs))) (hd : ds.length = xs.length) (m : Nat) (os : Array Obj) :
    (sortWorld encD w g 0 m ds.toArray os).ownsRow base e 1 (.slice (some ⟨g, 0, none⟩) n c) n (cI (valD ds)) ∧ Below base w (sortWorld encD w g 0 m ds.toArray os) := by
  obtain ⟨cur, hB, hge, h6, h7, h8, ht⟩ := own_blkI h
  have hl : (cI (valD xs)).length = n * 1 := h.1
  have hl2 : (cI (valD ds)).length = n * 1 := by rw [← hl, cI_valD, cI_valD, List.length_map, List.length_map, hd]
  have hdn : ds.length = n := by rw [cI_valD, List.length_map] at hl2; omega
  have hz : g < (putRow encD (Sort.ahead w m) g 0 ds.toArray).heap.size := by
    rw [size_putRow]
    exact hB.lt
  have hb : (putRow encD (Sort.ahead w m) g 0 ds.toArray).heap[g]? = some (.cells (putCells encD 0 ds.toArray cur) e (0, 0)) := heap_mapBlock_same hB
  refine ⟨⟨hl2, .inr ⟨g, c, putCells encD 0 ds.toArray cur, rfl, hge, ?_, h6, h7, ?_, ?_⟩⟩, ?_⟩
  · unfold sortWorld
    rw [heap_grow_old _ _ hz]
    exact hb
  · unfold putCells; simpa using h8
  · have h9 := putCellsD_take (d := ds.toArray) (cur := cur) (by simp; omega)
    rw [Nat.mul_one, cI_valD]
    simpa [hdn] using h9
  · refine ⟨rfl, rfl, rfl, ?_, fun k hk => ?_⟩
    · unfold sortWorld
      rw [size_grow, size_putRow]
      exact Nat.le_add_right _ _
    · unfold sortWorld
      rw [heap_grow_old _ _ (by rw [size_putRow]; exact Nat.lt_trans (by omega) hB.lt)]
      unfold putRow
      rw [heap_mapBlock_other (by omega)]
      rfl
theorem cmpLaysD (blk off size : Nat) (w : World) : CmpLays1 Try.prog 79 #[] encD cmpD blk off size w :=
  fun _ _ _ _ x y => (cycle1_b x y _).mono fun _ _ ⟨he, hw⟩ => ⟨he, 0, #[], by rw [hw, grow_empty]; rfl⟩
theorem sortFuncI_b {w : World} {base n c g : Nat} {xs : List (Fin 64)} (h : w.ownsRow base 2 1 (.slice (some ⟨g, 0, none⟩) n c) n (cI (valD xs))) (hn : xs.length = n) (h1 : n ≤ 1000000) :
    Calls Try.prog 78 #[.slice (some ⟨g, 0, none⟩) n c, .func (.func 79) #[] #[]] w fun e w' => e = .returned (.tuple #[]) ∧ w'.ownsRow base 2 1 (.slice (some ⟨g, 0, none⟩) n c) n (cI (valD (sortD xs))) ∧ Below base w w' := by
  subst hn
  obtain ⟨cur, hB, _⟩ := own_blkI h
  have hcon := Any.slices_SortFunc_total intSort encD encD_one cmpD swoD 79 #[] g 0 c xs.toArray w ent_cycle1 (cmpLaysD _ _ _ _) (own_holdsD h) hB.lt (by simp; omega) totD
  refine hcon.mono fun e w' hh => ?_
  obtain ⟨he, m, os, hw⟩ := hh
  refine ⟨he, ?_⟩
  have h9 := own_sortD (ds := sortD xs) h (sortD_len xs) m os
  rw [hw]
  exact h9
end Go.Proofs.Ytblidpodbpoaeaa
