/- The reference's l08Fill. -/
import Derived.Test.YtkpnplldnihalaaLp4
import Derived.Test.YtkpnplldnihalaaMat
import Derived.Test.YtkpnplldnihalaaEx2
import Derived.Test.YtkpnplldnihalaaDt2
namespace Go.Proofs.Ytkpnplldnihalaa
open Go.RowKit
set_option linter.unusedSimpArgs false
set_option linter.unusedVariables false
set_option maxRecDepth 20000

set_option maxHeartbeats 2000000 in
theorem l01Own2_b (b off c : Nat) (xs : List Int) (w : World) (hl : xs.length ≤ 100000) (hr : RdI w (some ⟨b, off, none⟩) xs) :
    Calls Try.prog 65 #[.slice (some ⟨b, off, none⟩) xs.length c] w fun e w' => ∃ A' c', e = .returned (.slice A' xs.length c') ∧ w'.ownsRow w.heap.size 2 1 (.slice A' xs.length c') xs.length (cI xs) ∧ Below w.heap.size w w' := by
  obtain ⟨i0, hi, hz0, hz1, hz2⟩ := info_parts infoI
  have hown : (w.alloc (.cells #[] 2)).ownsRow w.heap.size 2 1 (.slice (some ⟨w.heap.size, 0, none⟩) 0 0) 0 [] := own_mono (own_blk (xs := []) (Blk.new w 2 #[]) (by simp) (by decide)) (Nat.le_refl _)
  have hcell : ∀ j u, (cI xs)[j]? = some u → (w.alloc (.cells #[] 2)).cell? ((⟨b, off, none⟩ : Addr).add j) = some u := fun j u hj => by
    have hj2 : j < xs.length := by
      have := (List.getElem?_eq_some_iff.1 hj).1
      simpa [cI] using this
    rw [getD_cI xs j hj2] at hj
    injection hj with hj
    subst hj
    obtain ⟨b2, off2, e, hb, hc⟩ := hr.pos (by omega)
    injection e with e
    injection e with e1 e2 _
    subst e1; subst e2
    rw [Addr.add_lit]
    exact ((Below.alloc (Below.refl w.heap.size w) (Nat.le_refl _) (.cells #[] 2)).cell (p := ⟨b, off + j, none⟩) hb).trans (hc j hj2)
  have Hc := Lib.hid hcell; have Ho := Lib.hid hown
  clear hr hcell hown
  go_enter Try.func65, Try.ntmps65
  go_wp2_with (first
    | (at_builtin; refine wpList_append_own _ rfl _ _ 36 rfl w.heap.size 2 i0 (.int .i64 0) 1 8 Try.underlying36 hi hz0 hz1 hz2 rfl (by decide) _ _ _ rfl Ho.out ⟨b, off, none⟩ xs.length c (cI xs) rfl (by simp [cI]) Hc.out ?c2 ?c3 ?c4 ?c5 ?_))
  case c2 => intro u hu; simp only [cI, List.mem_map] at hu; obtain ⟨z, _, rfl⟩ := hu; rfl
  case c3 => unfold maxLen; omega
  case c4 => omega
  case c5 => simp
  intro v' w1 hown' hgrow _
  have hb1 : Below w.heap.size w w1 := own_grown_below (Below.alloc (Below.refl _ _) (Nat.le_refl _) _) Ho.out hgrow (by simp)
  have hown2 : w1.ownsRow w.heap.size 2 1 v' xs.length (cI xs) := by first | exact hown' | (have h := hown'; simp only [Nat.zero_add, List.nil_append] at h; exact h)
  obtain ⟨A', c', rfl⟩ := own_form hown2
  have H1 := Lib.hid hown2
  clear hown' hown2 hgrow Ho Hc
  go_wp2
  go_ret
  exact ⟨A', c', rfl, H1.out, hb1⟩

theorem mostL_take {pre : List Int} {j : Nat} (hj : j < pre.length) : mostL (pre.take (j + 1)) = max (mostL (pre.take j)) (pre.getD j 0) := by
  have h : pre.getD j 0 = pre[j] := by simp [List.getD, hj]
  rw [List.take_add_one, List.getElem?_eq_getElem hj, h]
  exact mostL_snoc _ _
/-- The first j of the lesser things do not clash with x. -/
def fitTo (M : Nat → Nat → Int) (pre : List Int) (i : Nat) (x : Int) (j : Nat) : Bool := (List.range j).all fun n => decide (M i n = 0) || !decide (pre.getD n 0 = x)
theorem fitTo_next (M : Nat → Nat → Int) (pre : List Int) (i : Nat) (x : Int) (j : Nat) : fitTo M pre i x (j + 1) = (fitTo M pre i x j && (decide (M i j = 0) || !decide (pre.getD j 0 = x))) := by
  simp [fitTo, List.range_succ, List.all_append]
theorem fitTo_false {M : Nat → Nat → Int} {pre : List Int} {i : Nat} {x : Int} {j n : Nat} (hj : j ≤ n) (h : fitTo M pre i x j = false) : fitTo M pre i x n = false := by
  rw [fitTo, List.all_eq_false] at h ⊢
  obtain ⟨a, ha, hb⟩ := h
  exact ⟨a, by simp at ha ⊢; omega, hb⟩
theorem fitTo_fits {M : Nat → Nat → Int} {pre : List Int} {x : Int} : fitTo M pre pre.length x pre.length = fitsB (fun i j => !decide (M i j = 0)) (fun x y => decide (x = y)) pre x := by
  rw [Bool.eq_iff_iff]
  simp only [fitTo, fitsB, List.all_eq_true, Bool.not_eq_true', List.any_eq_false]
  constructor
  · intro h a ha
    obtain ⟨n, rfl, hn, hm⟩ := mem_nbr ha
    have := h n (by simpa using hn)
    simp at hm this
    rw [Int.toNat_natCast]
    rcases this with h1 | h1
    · exact absurd h1 hm
    · simp; exact fun e => h1 e.symm
  · intro h n hn
    have hn' : n < pre.length := by simpa using hn
    by_cases hm : M pre.length n = 0
    · simp [hm]
    · have := h (n : Int) (by simp only [nbr, nbrTo, List.mem_map, List.mem_filter, List.mem_range]; exact ⟨n, ⟨hn', by simp [hm]⟩, rfl⟩)
      rw [Int.toNat_natCast] at this
      simp at this
      simp [hm]
      exact fun e => this e.symm
end Go.Proofs.Ytkpnplldnihalaa
