/- Opening a law's argument that is a list of ints; no statement of the program is proved here. -/
import Derived.Test.YtigdfcigoejjjaaRow0
namespace Go.Proofs.Ytigdfcigoejjjaa
open Go.RowKit Go.ChangeShapes Go.WideShapes
set_option linter.unusedSimpArgs false
set_option linter.unusedVariables false
set_option maxRecDepth 20000

section
variable {H : Type} {enc : TypeId × Value → H}
/-- A slice of ints that came in. -/
theorem open_intS {w : World} {v : Value} {d : DataW H} {p : List MemPlace} {b0 : Nat} (hv : Value.okWide Try.prog w .any b0 25 v) (h : DataW.Trod enc Try.prog w 0 (fun _ => true) true 25 v d p) :
    ∃ (A : Option Addr) (c : Nat) (xs : List Int), v = .slice A xs.length c ∧ xs.length ≤ 9223372036854775807 ∧ RdI w A xs ∧ (∀ y ∈ xs, (Lit.int .i64 y).wf = true) := by
  obtain ⟨fuel, h⟩ := h
  obtain ⟨A0, n0, c0, rfl⟩ := okWide_slice Try.underlying25 hv
  rcases Deep.open_slice1 Try.underlying25 (by kernel_rfl) h with ⟨hcs, hx⟩ | ⟨a, len, cap, m, n, V, D, Pl, hcs, hb, hl, hm, hmm, hx, hel⟩
  · simp [Value.cells] at hcs
    obtain ⟨rfl, rfl, rfl⟩ := hcs
    exact ⟨none, 0, [], rfl, by simp, .inl rfl, by simp⟩
  · simp [Value.cells] at hcs
    obtain ⟨rfl, rfl, rfl⟩ := hcs
    simp only [if_true] at hmm
    subst hmm
    have key : ∀ i, i < m → ∃ z : Int, w.cell? (a.add i) = some (.int .i64 z) ∧ (Lit.int .i64 z).wf = true := by
      intro i hi
      obtain ⟨h1, h2⟩ := hel i hi
      obtain ⟨z, e, _, wz⟩ := DataW.trod_int Try.underlying2 h2
      simp at e
      exact ⟨z, by rw [h1, e], wz⟩
    obtain ⟨E, hE⟩ := Deep.choose_lt key
    refine ⟨some a, m, (List.range n0).map E, by simp, by have : m ≤ 9223372036854775807 := Nat.le_trans hm (by decide); simp; omega, ?_, ?_⟩
    · rcases Nat.eq_zero_or_pos n0 with h0 | h0
      · left; subst h0; rfl
      · right
        obtain ⟨b, off, spot⟩ := a
        have hc0 := (hE 0 (by omega)).1
        have hspot : spot = none := by simpa [Addr.add] using World.cell?_spot hc0
        subst hspot
        have hbl : b < w.heap.size := by simpa [Addr.add] using World.block_lt_of_cell? w _ hc0
        refine ⟨b, off, rfl, hbl, fun j hj => ?_⟩
        have hj' : j < n0 := by simpa using hj
        have hc := (hE j (by omega)).1
        rw [add_plain] at hc
        have hgd : ((List.range n0).map E).getD j 0 = E j := by simp [List.getD, hj']
        rw [hgd]; exact hc
    · intro y hy
      simp only [List.mem_map, List.mem_range] at hy
      obtain ⟨i, hi', rfl⟩ := hy
      exact (hE i (by omega)).2
end
end Go.Proofs.Ytigdfcigoejjjaa
