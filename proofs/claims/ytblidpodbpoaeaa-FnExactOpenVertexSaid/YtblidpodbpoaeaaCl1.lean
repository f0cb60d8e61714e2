/- Edges that are copied: slices.Clone. No statement of the program is proved here. -/
import Derived.Test.YtblidpodbpoaeaaEx2
import Derived.Deep.RegionLaw
import Derived.Lib.SliceRun
namespace Go.Proofs.Ytblidpodbpoaeaa
open Go.RowKit
set_option linter.unusedSimpArgs false
set_option linter.unusedVariables false
set_option maxRecDepth 20000

theorem cE_mem {es : List (Int × Int)} {u : Value} (h : u ∈ cE es) : u.oneCell' = true := by
  induction es with
  | nil => simp [cE] at h
  | cons e es ih =>
    rw [cE_cons] at h
    simp only [List.mem_cons] at h
    rcases h with rfl | rfl | h
    · rfl
    · rfl
    · exact ih h

set_option maxHeartbeats 2000000 in
theorem cloneE_b (A : Option Addr) (c : Nat) (es : List (Int × Int)) (w : World) (hp : 0 < es.length) (hl : es.length ≤ 100000) (hr : RdE w A es) :
    Calls Try.prog 51 #[.slice A es.length c] w fun e w' => ∃ g c', e = .returned (.slice (some ⟨g, 0, none⟩) es.length c') ∧ w'.ownsRow w.heap.size 54 2 (.slice (some ⟨g, 0, none⟩) es.length c') es.length (cE es) ∧ Below w.heap.size w w' := by
  obtain ⟨i0, hi, hz0, hz1, hz2⟩ := info_parts infoE
  obtain ⟨b, off, rfl, hb, hc⟩ := hr.pos hp
  have hown : (w.alloc (.cells #[] 54)).ownsRow w.heap.size 54 2 (.slice (some ⟨w.heap.size, 0, none⟩) 0 0) 0 [] := own_mono (own_blk (xs := []) (Blk.new w 54 #[]) (by simp) (by decide)) (Nat.le_refl _)
  have hcell : ∀ j u, (cE es)[j]? = some u → (w.alloc (.cells #[] 54)).cell? ((⟨b, off, none⟩ : Addr).add j) = some u := fun j u hj => by
    have hj2 : j < es.length * 2 := by
      have := (List.getElem?_eq_some_iff.1 hj).1
      rwa [length_cE] at this
    rw [Addr.add_lit]
    refine ((Below.alloc (Below.refl w.heap.size w) (Nat.le_refl _) (.cells #[] 54)).cell (p := ⟨b, off + j, none⟩) hb).trans ?_
    obtain ⟨h0, h1⟩ := hc (j / 2) (by omega)
    rcases Nat.mod_two_eq_zero_or_one j with hm | hm
    · have e : j = j / 2 * 2 := by omega
      have h2 := getD_cE0 es (j / 2) (by omega)
      rw [← e] at h2 h0
      rw [h2] at hj; injection hj with hj; subst hj
      exact h0
    · have e : j = j / 2 * 2 + 1 := by omega
      have h2 := getD_cE1 es (j / 2) (by omega)
      rw [← e] at h2
      rw [h2] at hj; injection hj with hj; subst hj
      rw [Nat.add_assoc, ← e] at h1
      exact h1
  have Hc := Lib.hid hcell; have Ho := Lib.hid hown
  clear hc hr hcell hown
  have hlen := length_cE es
  have he : ∀ w : World, (binOp .eql 22 (.slice (some ⟨b, off, none⟩) es.length c) (.slice none 0 0)).run Try.prog w = .ok (.bool false) w := fun _ => rfl
  go_enter Try.func51, Try.ntmps51
  go_wp2_with (first
    | (at_builtin; refine wpList_append_own _ rfl _ _ 22 rfl w.heap.size 54 i0 (.agg #[.int .i64 0, .int .i64 0]) 2 16 Try.underlying22 hi hz0 hz1 hz2 rfl (by decide) _ _ _ rfl Ho.out ⟨b, off, none⟩ es.length c (cE es) rfl hlen Hc.out ?c2 ?c3 ?c4 ?c5 ?_))
  case c2 => intro u hu; exact cE_mem hu
  case c3 => unfold maxLen; omega
  case c4 => omega
  case c5 => simp
  intro v' w1 hown' hgrow _
  have hb1 : Below w.heap.size w w1 := own_grown_below (Below.alloc (Below.refl _ _) (Nat.le_refl _) _) Ho.out hgrow (by simp)
  have hown2 : w1.ownsRow w.heap.size 54 2 v' es.length (cE es) := by first | exact hown' | (have h := hown'; simp only [Nat.zero_add, List.nil_append] at h; exact h)
  obtain ⟨g, c', rfl, hg1, hg2⟩ := own_someI hown2 hp
  have H1 := Lib.hid hown2
  clear hown' hown2 hgrow Ho Hc
  go_wp2
  go_ret
  exact ⟨g, c', rfl, H1.out, hb1⟩

end Go.Proofs.Ytblidpodbpoaeaa
