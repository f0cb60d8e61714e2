/- A map keyed by directed edges. No statement of the program is proved here. -/
import Derived.Test.YtigdfcigoejjjaaLl2
import Derived.Maps.OwnOps
import Derived.DeepKeys4
import Derived.WideKeyArgs2
namespace Go.Proofs.Ytigdfcigoejjjaa
open Go.RowKit
open Go.Maps (Keyed)
open Go.ChangeMaps (setBlock)
set_option linter.unusedSimpArgs false
set_option linter.unusedVariables false
set_option maxRecDepth 100000

theorem laidOut : laidOutB Try.prog = true := by kernel_rfl
theorem dirLaw : Keyed Try.prog 92 := Keyed.of_law (deep_law_laid laidOut (m := 3) (by omega) (of_decide_eq_true (by kernel_rfl)) (by kernel_rfl) (by kernel_rfl))
/-- A directed edge as a value. -/
def dirV (d : Nat) : Value := .agg #[.int .i64 ((d / 2 : Nat) : Int), .bool (d % 2 == 1)]
theorem dir_key (d : Nat) (hd : d < 1000) : ∃ l, keyOf Try.prog 92 (dirV d) = some l := by
  have h1 : Try.prog.keyType 92 = true := by kernel_rfl
  have h2 : Try.prog.cellsOf 92 = 2 := by kernel_rfl
  have h3 : Try.prog.cellsOf 2 = 1 := by kernel_rfl
  have h4 : Try.prog.cellsOf 4 = 1 := by kernel_rfl
  have h5 : Value.formed Try.prog 92 (dirV d) = true := by simp [dirV, Value.formed, Try.underlying92, h2]
  obtain ⟨m, hm⟩ : ∃ m, Try.prog.types.size + 1 = m + 2 := ⟨Try.prog.types.size - 1, by have : 0 < Try.prog.types.size := of_decide_eq_true (by kernel_rfl); omega⟩
  have hw : (Lit.int IntKind.i64 ((d / 2 : Nat) : Int)).wf = true := by exact WalkArith.wf_i64 (by omega)
  have hw2 : (Lit.int IntKind.i64 ((d : Int) / 2)).wf = true := by have h9 := hw; rwa [show ((d / 2 : Nat) : Int) = (d : Int) / 2 by omega] at h9
  have h6 : ∃ ls, Try.prog.keyLits (Try.prog.types.size + 1) 92 (dirV d).cells.toList = some ls := by
    rw [hm]
    refine ⟨[.int .i64 ((d / 2 : Nat) : Int), .bool (d % 2 == 1)], ?_⟩
    simp [Program.keyLits, Try.underlying92, Try.underlying2, Try.underlying4, h2, h3, h4, dirV, Value.cells, hw2]
  obtain ⟨ls, h6⟩ := h6
  refine ⟨.string (keyBytes ls), ?_⟩
  unfold keyOf
  rw [Try.underlying92]
  simp only [h1, h5, h6, Bool.and_self, if_true, Option.map_some]
theorem dirV_inj {a b : Nat} (h : dirV a = dirV b) : a = b := by
  simp only [dirV, Value.agg.injEq, Array.mk.injEq, List.cons.injEq, Value.int.injEq, Value.bool.injEq, true_and, and_true] at h
  obtain ⟨h1, h2⟩ := h
  have h3 : a / 2 = b / 2 := by omega
  rcases Nat.mod_two_eq_zero_or_one a with e1 | e1 <;> rcases Nat.mod_two_eq_zero_or_one b with e2 | e2 <;> rw [e1, e2] at h2 <;> first | omega | simp at h2
/-- A block that is a map which holds true at the directed edges that are met. -/
def MapD (w : World) (b : Nat) (met : List Bool) : Prop := ∃ es clock, w.heap[b]? = some (.map es clock) ∧
  (∀ e ∈ es.toList, ∃ d, d < met.length ∧ e.key = dirV d ∧ e.val = .bool true ∧ met.getD d true = true) ∧ (∀ d, d < met.length → met.getD d true = true → ∃ e ∈ es.toList, e.key = dirV d) ∧ es.size + openN met = met.length
/-- The number of a map's entries. -/
def sizeM (w : World) (b : Nat) : Nat := match w.heap[b]? with
  | some (.map es _) => es.size
  | _ => 0
theorem MapD.lt {w : World} {b : Nat} {met : List Bool} (h : MapD w b met) : b < w.heap.size := by
  obtain ⟨es, clock, h, _⟩ := h
  exact (Array.getElem?_eq_some_iff.1 h).1
theorem MapD.size {w : World} {b : Nat} {met : List Bool} (h : MapD w b met) : sizeM w b + openN met = met.length := by
  obtain ⟨es, clock, h, _, _, h2⟩ := h
  rw [sizeM, h]; exact h2
theorem MapD.below {w w' : World} {b B : Nat} {met : List Bool} (h : MapD w b met) (hb : Below B w w') (hB : b < B) : MapD w' b met := by
  obtain ⟨es, clock, h, r⟩ := h
  exact ⟨es, clock, (hb.block b hB).trans h, r⟩
theorem MapD.alien {w : World} {b : Nat} {met : List Bool} (h : MapD w b met) : Alien w b := by
  obtain ⟨es, clock, h, _⟩ := h
  refine fun cs => ⟨fun h2 => ?_, fun h2 => ?_⟩
  · have := h.symm.trans h2; simp at this
  · have := h.symm.trans h2; simp at this
theorem MapD.made (w : World) (n : Nat) : MapD (w.alloc (.map #[] 0)) w.heap.size (List.replicate n false) := by
  refine ⟨#[], 0, heap_alloc_new w _, fun e he => by simp at he, fun d hd h => ?_, by rw [openN_rep]; simp⟩
  rw [List.length_replicate] at hd
  rw [List.getD_eq_getElem?_getD, List.getElem?_replicate, if_pos hd] at h
  simp at h
theorem MapD.find {w : World} {b : Nat} {met : List Bool} (h : MapD w b met) (hl : met.length ≤ 1000) {d : Nat} (hd : d < met.length) :
    (Instr.lookup 90 (.map (some b)) (dirV d) false).run Try.prog w = .ok (.bool (met.getD d true)) w := by
  obtain ⟨es, clock, hb, h1, h2, h3⟩ := h
  obtain ⟨kl, hkey⟩ := dir_key d (by omega)
  have hz : (zeroValue 4).run Try.prog w = .ok (.bool false) w := by kernel_rfl
  rcases dirLaw.find w hkey es.toList (fun e he => by
    obtain ⟨d2, hd2, e2, _⟩ := h1 e he
    rw [e2]; exact dir_key d2 (by omega)) with ⟨f1, f2⟩ | ⟨j, e0, f1, f2, f3⟩
  · have hm : met.getD d true = false := by
      cases hq : met.getD d true
      · rfl
      · obtain ⟨e, he, hk⟩ := h2 d hd hq
        exact absurd hk (f2 e he)
    rw [hm]
    simp [Instr.lookup, run_underlying Try.underlying90, MapKept.run_getObj_map hb, dirLaw.check w _ hkey, f1, hz, Result.andThen]
  · obtain ⟨d2, hd2, e2, hv, hm⟩ := h1 e0 (List.mem_of_getElem? f2)
    have : d2 = d := dirV_inj (e2.symm.trans f3)
    subst this
    rw [hm]
    simp [Instr.lookup, run_underlying Try.underlying90, MapKept.run_getObj_map hb, dirLaw.check w _ hkey, f1, Result.andThen, hv]
theorem MapD.put {w : World} {b : Nat} {met : List Bool} (h : MapD w b met) (hl : met.length ≤ 1000) {d : Nat} (hd : d < met.length) (hm : met.getD d true = false) :
    ∃ w', (Instr.mapUpdate 90 (.map (some b)) (dirV d) (.bool true)).run Try.prog w = .ok () w' ∧ MapD w' b (met.set d true) ∧ SameBut b w w' ∧ (∀ B w0, B ≤ b → Below B w0 w → Below B w0 w') := by
  have hop := openN_set hd hm
  have hbl := h.lt
  obtain ⟨es, clock, hb, h1, h2, h3⟩ := h
  obtain ⟨kl, hkey⟩ := dir_key d (by omega)
  rcases dirLaw.find w hkey es.toList (fun e he => by
    obtain ⟨d2, hd2, e2, _⟩ := h1 e he
    rw [e2]; exact dir_key d2 (by omega)) with ⟨f1, f2⟩ | ⟨j, e0, f1, f2, f3⟩
  · have hget : ∀ j, j < met.length → (met.set d true).getD j true = if j = d then true else met.getD j true := by
      intro j hj
      by_cases e : j = d
      · subst e; rw [if_pos rfl]; simp [List.getD, hd]
      · rw [if_neg e]; simp [List.getD, List.getElem?_set_ne (Ne.symm e)]
    refine ⟨setBlock w b (.map (es.push ⟨dirV d, .bool true, clock⟩) (clock + 1)), ?_, ⟨es.push ⟨dirV d, .bool true, clock⟩, clock + 1, ?_, ?_, ?_, ?_⟩, ?_, ?_⟩
    · simp [Instr.mapUpdate, run_underlying Try.underlying90, MapKept.run_getObj_map hb, dirLaw.check w false hkey, f1, MapKept.run_setObj_map _ hb, Result.andThen, setBlock]
    · exact ChangeMaps.heap_setBlock_same hb _
    · intro e he
      simp only [Array.toList_push, List.mem_append, List.mem_singleton] at he
      rcases he with he | rfl
      · obtain ⟨d2, hd2, e2, hv, hm2⟩ := h1 e he
        refine ⟨d2, by rw [List.length_set]; exact hd2, e2, hv, ?_⟩
        rw [hget d2 hd2]
        split
        · rfl
        · exact hm2
      · exact ⟨d, by rw [List.length_set]; exact hd, rfl, rfl, by rw [hget d hd, if_pos rfl]⟩
    · intro d2 hd2 hm2
      rw [List.length_set] at hd2
      rw [hget d2 hd2] at hm2
      by_cases e : d2 = d
      · subst e
        exact ⟨⟨dirV d2, .bool true, clock⟩, by simp, rfl⟩
      · rw [if_neg e] at hm2
        obtain ⟨e9, he9, hk9⟩ := h2 d2 hd2 hm2
        exact ⟨e9, by simp [he9], hk9⟩
    · rw [Array.size_push, List.length_set]; omega
    · exact ⟨by simp [setBlock], fun i _ hi => ChangeMaps.heap_setBlock_other hb _ hi⟩
    · intro B w0 hB hbl2
      exact hbl2.trans ⟨rfl, rfl, rfl, by simp [setBlock], fun i hi => ChangeMaps.heap_setBlock_other hb _ (by omega)⟩
  · obtain ⟨d2, hd2, e2, hv, hm2⟩ := h1 e0 (List.mem_of_getElem? f2)
    have : d2 = d := dirV_inj (e2.symm.trans f3)
    subst this
    rw [hm] at hm2; cases hm2
end Go.Proofs.Ytigdfcigoejjjaa
