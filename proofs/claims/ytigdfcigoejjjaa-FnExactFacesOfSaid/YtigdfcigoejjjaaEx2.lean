/- Slices that are copied: slices.Clone, l01Own; a store into a slice that is owned. -/
import Derived.Test.YtigdfcigoejjjaaCi2
import Derived.Test.YtigdfcigoejjjaaZm
import Derived.Test.YtigdfcigoejjjaaEx1
namespace Go.Proofs.Ytigdfcigoejjjaa
open Go.RowKit
set_option linter.unusedSimpArgs false
set_option linter.unusedVariables false
set_option maxRecDepth 20000

theorem own_someI {w : World} {base : Nat} {e : TypeId} {size n : Nat} {v : Value} {xs : List Value} (h : w.ownsRow base e size v n xs) (hn : 0 < n) : ∃ g c, v = .slice (some ⟨g, 0, none⟩) n c ∧ base ≤ g ∧ g < w.heap.size := by
  rcases h.2 with ⟨_, h2⟩ | ⟨g, cap, cur, hv, hge, hh, _⟩
  · omega
  · exact ⟨g, cap, hv, hge, Blk.lt (t := e) (cs := cur) hh⟩
theorem own_frozen {w : World} {base : Nat} {e : TypeId} {size n c g : Nat} {xs : List Value} (h : w.ownsRow base e size (.slice (some ⟨g, 0, none⟩) n c) n xs) (i : Nat) : w.frozen? ⟨g, i, none⟩ = false := by
  rcases h.2 with ⟨h1, _⟩ | ⟨g', cap, cur, hv, hge, hh, _⟩
  · cases h1
  · injection hv with h1 _ _
    injection h1 with h1
    injection h1 with h1 _ _
    subst h1
    exact Blk.frozen (t := e) (cs := cur) hh i
theorem own_cellI {w : World} {base : Nat} {e : TypeId} {n c g : Nat} {xs : List Int} (h : w.ownsRow base e 1 (.slice (some ⟨g, 0, none⟩) n c) n (cI xs)) (hn : xs.length = n) {i : Nat} (hi : i < n) : w.cell? ⟨g, i, none⟩ = some (.int .i64 (xs.getD i 0)) := by
  rcases h.2 with ⟨h1, _⟩ | ⟨g', cap, cur, hv, hge, hh, _, _, _, ht⟩
  · cases h1
  · injection hv with h1 _ _
    injection h1 with h1
    injection h1 with h1 _ _
    subst h1
    have hB : Blk w g e cur := hh
    refine hB.cellAt i _ ?_
    have h5 := getD_cI xs i (by omega)
    rw [← ht, Nat.mul_one, List.getElem?_take_of_lt hi] at h5
    rw [← Array.getElem?_toList]; exact h5
theorem own_setI {w : World} {base : Nat} {e : TypeId} {n c g : Nat} {xs : List Int} (h : w.ownsRow base e 1 (.slice (some ⟨g, 0, none⟩) n c) n (cI xs)) (hn : xs.length = n) {i : Nat} (hi : i < n) (v : Int) :
    (w.setCell ⟨g, i, none⟩ (.int .i64 v)).ownsRow base e 1 (.slice (some ⟨g, 0, none⟩) n c) n (cI (xs.set i v)) := by
  refine ⟨by simpa [cI] using h.1, .inr ?_⟩
  rcases h.2 with ⟨h1, _⟩ | ⟨g', cap, cur, hv, hge, hh, h6, h7, h8, ht⟩
  · cases h1
  · injection hv with h1 h2 h3
    injection h1 with h1
    injection h1 with h1 _ _
    subst h1
    have hB : Blk w g e cur := hh
    refine ⟨g, cap, cur.setIfInBounds i (.int .i64 v), by rw [h3], hge, hB.set_ i _, h6, h7, by simpa using h8, ?_⟩
    rw [Array.toList_setIfInBounds, cI_set, ← ht, List.take_set]

set_option maxHeartbeats 2000000 in
theorem l01Own_b (A : Option Addr) (c : Nat) (xs : List Int) (w : World) (hp : 0 < xs.length) (hl : xs.length ≤ 100000) (hr : RdI w A xs) :
    Calls Try.prog 121 #[.slice A xs.length c] w fun e w' => ∃ g c', e = .returned (.slice (some ⟨g, 0, none⟩) xs.length c') ∧ w'.ownsRow w.heap.size 2 1 (.slice (some ⟨g, 0, none⟩) xs.length c') xs.length (cI xs) ∧ Below w.heap.size w w' := by
  obtain ⟨i0, hi, hz0, hz1, hz2⟩ := info_parts infoI
  obtain ⟨b, off, rfl, hb, hc⟩ := hr.pos hp
  have hown : (w.alloc (.cells #[] 2)).ownsRow w.heap.size 2 1 (.slice (some ⟨w.heap.size, 0, none⟩) 0 0) 0 [] := own_mono (own_blk (xs := []) (Blk.new w 2 #[]) (by simp) (by decide)) (Nat.le_refl _)
  have hcell : ∀ j u, (cI xs)[j]? = some u → (w.alloc (.cells #[] 2)).cell? ((⟨b, off, none⟩ : Addr).add j) = some u := fun j u hj => by
    have hj2 : j < xs.length := by
      have := (List.getElem?_eq_some_iff.1 hj).1
      simpa [cI] using this
    rw [getD_cI xs j hj2] at hj
    injection hj with hj
    subst hj
    rw [Addr.add_lit]
    exact ((Below.alloc (Below.refl w.heap.size w) (Nat.le_refl _) (.cells #[] 2)).cell (p := ⟨b, off + j, none⟩) hb).trans (hc j hj2)
  have Hc := Lib.hid hcell; have Ho := Lib.hid hown
  clear hc hr hcell hown
  go_enter Try.func121, Try.ntmps121
  go_wp2_with (first
    | (at_builtin; refine wpList_append_own _ rfl _ _ 25 rfl w.heap.size 2 i0 (.int .i64 0) 1 8 Try.underlying25 hi hz0 hz1 hz2 rfl (by decide) _ _ _ rfl Ho.out ⟨b, off, none⟩ xs.length c (cI xs) rfl (by simp [cI]) Hc.out ?c2 ?c3 ?c4 ?c5 ?_))
  case c2 => intro u hu; simp only [cI, List.mem_map] at hu; obtain ⟨z, _, rfl⟩ := hu; rfl
  case c3 => unfold maxLen; omega
  case c4 => omega
  case c5 => simp
  intro v' w1 hown' hgrow _
  have hb1 : Below w.heap.size w w1 := own_grown_below (Below.alloc (Below.refl _ _) (Nat.le_refl _) _) Ho.out hgrow (by simp)
  have hown2 : w1.ownsRow w.heap.size 2 1 v' xs.length (cI xs) := by first | exact hown' | (have h := hown'; simp only [Nat.zero_add, List.nil_append] at h; exact h)
  clear hown'
  have hown' := hown2
  obtain ⟨g, c', rfl, hg1, hg2⟩ := own_someI hown' hp
  have H1 := Lib.hid hown'
  clear hown' hown2 hgrow Ho Hc
  go_wp2
  go_ret
  exact ⟨g, c', rfl, H1.out, hb1⟩

/-- The first k places merged. -/
def mergeTo (f t : Int) (x : List Int) (k : Nat) : List Int := mergeL f t (x.take k) ++ x.drop k
theorem mergeTo_zero (f t : Int) (x : List Int) : mergeTo f t x 0 = x := by simp [mergeTo, mergeL]
theorem mergeTo_all (f t : Int) (x : List Int) : mergeTo f t x x.length = mergeL f t x := by simp [mergeTo]
theorem mergeTo_len (f t : Int) (x : List Int) (k : Nat) : (mergeTo f t x k).length = x.length := by simp [mergeTo, mergeL]; omega
theorem mergeTo_getD (f t : Int) (x : List Int) (k : Nat) (hk : k < x.length) : (mergeTo f t x k).getD k 0 = x.getD k 0 := by
  have h : (mergeL f t (x.take k)).length = k := by simp [mergeL]; omega
  simp [mergeTo, List.getD, List.getElem?_append_right, h]
theorem mergeTo_yes (f t : Int) (x : List Int) (k : Nat) (hk : k < x.length) (h : x.getD k 0 = f) : (mergeTo f t x k).set k t = mergeTo f t x (k + 1) := by
  have hlen : (mergeL f t (x.take k)).length = k := by simp [mergeL]; omega
  have h2 : x[k]? = some f := by simpa [List.getD, hk] using h
  rw [mergeTo, mergeTo, List.set_append_right _ _ (by omega), hlen, Nat.sub_self, List.take_add_one, h2]
  have h3 : x.drop k = f :: x.drop (k + 1) := by
    rw [List.drop_eq_getElem_cons hk]
    congr 1
    simpa [hk] using h2
  rw [h3]
  simp [mergeL]
theorem mergeTo_no (f t : Int) (x : List Int) (k : Nat) (hk : k < x.length) (h : x.getD k 0 ≠ f) : mergeTo f t x k = mergeTo f t x (k + 1) := by
  have h3 : x.drop k = x[k] :: x.drop (k + 1) := List.drop_eq_getElem_cons hk
  have h4 : x[k] ≠ f := by simpa [List.getD, hk] using h
  rw [mergeTo, mergeTo, List.take_add_one, List.getElem?_eq_getElem hk, h3]
  simp only [mergeL, List.map_append, List.map_cons, List.map_nil, if_neg h4, Option.toList_some, List.append_assoc, List.singleton_append]
end Go.Proofs.Ytigdfcigoejjjaa
