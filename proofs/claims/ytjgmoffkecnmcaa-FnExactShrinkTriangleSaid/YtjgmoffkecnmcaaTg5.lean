/- In-place changes of owned slices. No statement of the program is proved here. -/
import Derived.Test.YtjgmoffkecnmcaaTg1
import Derived.Test.YtjgmoffkecnmcaaWo4
namespace Go.Proofs.Ytjgmoffkecnmcaa
open Go.RowKit
set_option linter.unusedSimpArgs false
set_option linter.unusedVariables false
set_option maxRecDepth 20000

/-- The first k numbers changed. -/
def fixI (l : Nat) (xs : List Int) (k : Nat) : List Int := (xs.take k).map (fixV l) ++ xs.drop k
theorem fixI_zero (l : Nat) (xs : List Int) : fixI l xs 0 = xs := by simp [fixI]
theorem fixI_full (l : Nat) (xs : List Int) : fixI l xs xs.length = xs.map (fixV l) := by simp [fixI]
theorem fixI_len (l : Nat) (xs : List Int) (k : Nat) (hk : k ≤ xs.length) : (fixI l xs k).length = xs.length := by simp [fixI]; omega
theorem fixI_get {l : Nat} {xs : List Int} {k : Nat} (hk : k < xs.length) : (fixI l xs k).getD k 0 = xs.getD k 0 := by
  unfold fixI
  simp only [List.getD]
  rw [List.getElem?_append_right (by simp; omega)]
  have : ((xs.take k).map (fixV l)).length = k := by simp; omega
  rw [this, Nat.sub_self, List.getElem?_drop, Nat.add_zero]
theorem fixI_set {l : Nat} {xs : List Int} {k : Nat} (hk : k < xs.length) : (fixI l xs k).set k (fixV l (xs.getD k 0)) = fixI l xs (k + 1) := by
  have h1 : ((xs.take k).map (fixV l)).length = k := by simp; omega
  have h2 : xs.getD k 0 = xs[k] := by simp [List.getD, hk]
  unfold fixI
  rw [List.set_append_right _ _ (by omega), h1, Nat.sub_self, List.drop_eq_getElem_cons hk, List.set_cons_zero, List.take_add_one, List.getElem?_eq_getElem hk, h2, List.map_append]
  simp
theorem fixI_same {l : Nat} {xs : List Int} {k : Nat} (hk : k < xs.length) (h : fixV l (xs.getD k 0) = xs.getD k 0) : fixI l xs k = fixI l xs (k + 1) := by
  rw [← fixI_set hk, h, ← fixI_get hk (l := l)]
  have h3 := fixI_len l xs k (by omega)
  refine (List.ext_getElem (by simp) fun i h1 h2 => ?_).symm
  rw [List.getElem_set]
  split
  · next e => subst e; simp [List.getD, h3, hk]
  · rfl
def fixP (l : Nat) (e : Int × Int) : Int × Int := (fixV l e.1, fixV l e.2)
/-- The first j coordinates changed. -/
def fixJ (l : Nat) (e : Int × Int) : Nat → Int × Int
  | 0 => e
  | 1 => (fixV l e.1, e.2)
  | _ => fixP l e
def fixEs (l : Nat) (xs : List (Int × Int)) (k : Nat) : List (Int × Int) := (xs.take k).map (fixP l) ++ xs.drop k
def fixEJ (l : Nat) (xs : List (Int × Int)) (k j : Nat) : List (Int × Int) := (fixEs l xs k).set k (fixJ l (xs.getD k (0, 0)) j)
theorem fixEs_zero (l : Nat) (xs : List (Int × Int)) : fixEs l xs 0 = xs := by simp [fixEs]
theorem fixEs_full (l : Nat) (xs : List (Int × Int)) : fixEs l xs xs.length = xs.map (fixP l) := by simp [fixEs]
theorem fixEs_len (l : Nat) (xs : List (Int × Int)) (k : Nat) (hk : k ≤ xs.length) : (fixEs l xs k).length = xs.length := by simp [fixEs]; omega
theorem fixEJ_len (l : Nat) (xs : List (Int × Int)) (k j : Nat) (hk : k ≤ xs.length) : (fixEJ l xs k j).length = xs.length := by rw [fixEJ, List.length_set, fixEs_len l xs k hk]
theorem fixEs_get {l : Nat} {xs : List (Int × Int)} {k : Nat} (hk : k < xs.length) : (fixEs l xs k).getD k (0, 0) = xs.getD k (0, 0) := by
  unfold fixEs
  simp only [List.getD]
  rw [List.getElem?_append_right (by simp; omega)]
  have : ((xs.take k).map (fixP l)).length = k := by simp; omega
  rw [this, Nat.sub_self, List.getElem?_drop, Nat.add_zero]
theorem set_selfE {xs : List (Int × Int)} {k : Nat} : xs.set k (xs.getD k (0, 0)) = xs := by
  refine List.ext_getElem (by simp) fun i h1 h2 => ?_
  rw [List.getElem_set]
  split
  · next e => subst e; simp [List.getD, h2]
  · rfl
theorem fixEJ_zero {l : Nat} {xs : List (Int × Int)} {k : Nat} (hk : k < xs.length) : fixEJ l xs k 0 = fixEs l xs k := by
  show (fixEs l xs k).set k (xs.getD k (0, 0)) = _
  rw [← fixEs_get hk (l := l), set_selfE]
theorem fixEJ_two {l : Nat} {xs : List (Int × Int)} {k : Nat} (hk : k < xs.length) : fixEJ l xs k 2 = fixEs l xs (k + 1) := by
  have h1 : ((xs.take k).map (fixP l)).length = k := by simp; omega
  have h2 : xs.getD k (0, 0) = xs[k] := by simp [List.getD, hk]
  unfold fixEJ fixEs fixJ
  rw [List.set_append_right _ _ (by omega), h1, Nat.sub_self, List.drop_eq_getElem_cons hk, List.set_cons_zero, List.take_add_one, List.getElem?_eq_getElem hk, h2, List.map_append]
  simp
theorem fixEJ_get {l : Nat} {xs : List (Int × Int)} {k j : Nat} (hk : k < xs.length) : (fixEJ l xs k j).getD k (0, 0) = fixJ l (xs.getD k (0, 0)) j := by
  unfold fixEJ
  rw [set_getD (by rw [fixEs_len l xs k (by omega)]; exact hk), if_pos rfl]
theorem fixEJ_one {l : Nat} {xs : List (Int × Int)} {k : Nat} : (fixEJ l xs k 0).set k (fixV l (xs.getD k (0, 0)).1, (xs.getD k (0, 0)).2) = fixEJ l xs k 1 := by
  unfold fixEJ; rw [List.set_set]; rfl
theorem fixEJ_last {l : Nat} {xs : List (Int × Int)} {k : Nat} : (fixEJ l xs k 1).set k (fixV l (xs.getD k (0, 0)).1, fixV l (xs.getD k (0, 0)).2) = fixEJ l xs k 2 := by
  unfold fixEJ; rw [List.set_set]; rfl
theorem fixEJ_one' {l : Nat} {xs : List (Int × Int)} {k : Nat} (h : fixV l (xs.getD k (0, 0)).1 = (xs.getD k (0, 0)).1) : fixEJ l xs k 0 = fixEJ l xs k 1 := by
  show (fixEs l xs k).set k (xs.getD k (0, 0)) = (fixEs l xs k).set k (fixV l (xs.getD k (0, 0)).1, (xs.getD k (0, 0)).2)
  rw [h]
theorem fixEJ_last' {l : Nat} {xs : List (Int × Int)} {k : Nat} (h : fixV l (xs.getD k (0, 0)).2 = (xs.getD k (0, 0)).2) : fixEJ l xs k 1 = fixEJ l xs k 2 := by
  show (fixEs l xs k).set k (fixV l (xs.getD k (0, 0)).1, (xs.getD k (0, 0)).2) = (fixEs l xs k).set k (fixV l (xs.getD k (0, 0)).1, fixV l (xs.getD k (0, 0)).2)
  rw [h]

/-- A store of the first coordinate. -/
theorem own_set0 {w : World} {base : Nat} {e : TypeId} {n c g : Nat} {es : List (Int × Int)} (h : w.ownsRow base e 2 (.slice (some ⟨g, 0, none⟩) n c) n (cE es)) (hn : es.length = n) {i : Nat} (hi : i < n) (a : Int) :
    (w.setCell ⟨g, i * 2, none⟩ (.int .i64 a)).ownsRow base e 2 (.slice (some ⟨g, 0, none⟩) n c) n (cE (es.set i (a, (es.getD i (0, 0)).2))) := by
  refine ⟨by simpa [length_cE] using h.1, .inr ?_⟩
  have hc2 := (own_cellE h hn hi).2
  rcases h.2 with ⟨h1, _⟩ | ⟨g', cap, cur, hv, hge, hh, h6, h7, h8, ht⟩
  · cases h1
  · injection hv with h1 h2 h3
    injection h1 with h1
    injection h1 with h1 _ _
    subst h1
    have hB : Blk w g e cur := hh
    refine ⟨g, cap, cur.setIfInBounds (i * 2) (.int .i64 a), by rw [h3], hge, hB.set_ (i * 2) _, h6, h7, by simpa using h8, ?_⟩
    rw [Array.toList_setIfInBounds, cE_set, ← ht, List.take_set]
    rw [hB.cell] at hc2
    have h9 : ((cur.toList.take (n * 2)).set (i * 2) (Value.int .i64 a))[i * 2 + 1]? = some (.int .i64 (es.getD i (0, 0)).2) := by
      rw [List.getElem?_set_ne (by omega), List.getElem?_take_of_lt (by omega), Array.getElem?_toList]; exact hc2
    refine List.ext_getElem (by simp) fun j h1 h2 => ?_
    rw [List.getElem_set (i := i * 2 + 1)]
    split
    · next e => subst e; rw [List.getElem?_eq_getElem h1] at h9; injection h9
    · rfl
/-- A store of the second coordinate. -/
theorem own_set1 {w : World} {base : Nat} {e : TypeId} {n c g : Nat} {es : List (Int × Int)} (h : w.ownsRow base e 2 (.slice (some ⟨g, 0, none⟩) n c) n (cE es)) (hn : es.length = n) {i : Nat} (hi : i < n) (b : Int) :
    (w.setCell ⟨g, i * 2 + 1, none⟩ (.int .i64 b)).ownsRow base e 2 (.slice (some ⟨g, 0, none⟩) n c) n (cE (es.set i ((es.getD i (0, 0)).1, b))) := by
  refine ⟨by simpa [length_cE] using h.1, .inr ?_⟩
  have hc2 := (own_cellE h hn hi).1
  rcases h.2 with ⟨h1, _⟩ | ⟨g', cap, cur, hv, hge, hh, h6, h7, h8, ht⟩
  · cases h1
  · injection hv with h1 h2 h3
    injection h1 with h1
    injection h1 with h1 _ _
    subst h1
    have hB : Blk w g e cur := hh
    refine ⟨g, cap, cur.setIfInBounds (i * 2 + 1) (.int .i64 b), by rw [h3], hge, hB.set_ (i * 2 + 1) _, h6, h7, by simpa using h8, ?_⟩
    rw [Array.toList_setIfInBounds, cE_set, ← ht, List.take_set]
    rw [hB.cell] at hc2
    have h9 : (cur.toList.take (n * 2))[i * 2]? = some (.int .i64 (es.getD i (0, 0)).1) := by
      rw [List.getElem?_take_of_lt (by omega), Array.getElem?_toList]; exact hc2
    congr 1
    refine List.ext_getElem (by simp) fun j h1 h2 => ?_
    rw [List.getElem_set (i := i * 2)]
    split
    · next e => subst e; rw [List.getElem?_eq_getElem h1] at h9; injection h9
    · rfl
/-- A store into a slice of another type. -/
theorem blk_farT {w : World} {r t base g : Nat} {cs : Array Value} {e : TypeId} {size n c : Nat} {xs : List Value} (hB : Blk w r t cs) (h : w.ownsRow base e size (.slice (some ⟨g, 0, none⟩) n c) n xs) (hne : t ≠ e) (i : Nat) (v : Value) : Blk (w.setCell ⟨g, i, none⟩ v) r t cs := by
  have h1 := own_ne_type h hB hne
  refine hB.far (p := ⟨g, i, none⟩) (fun e9 => h1 ?_) v
  rw [e9]; rfl
theorem own_farT {w : World} {base g base2 g2 : Nat} {e e2 : TypeId} {size n c size2 n2 c2 : Nat} {xs ys : List Value} (hx : w.ownsRow base2 e2 size2 (.slice (some ⟨g2, 0, none⟩) n2 c2) n2 ys) (h : w.ownsRow base e size (.slice (some ⟨g, 0, none⟩) n c) n xs) (hne : e2 ≠ e) (i : Nat) (v : Value) : (w.setCell ⟨g, i, none⟩ v).ownsRow base2 e2 size2 (.slice (some ⟨g2, 0, none⟩) n2 c2) n2 ys :=
  own_same hx fun t cs ht hB => blk_farT hB h (by rw [ht]; exact hne) i v

/-- The reference's edges, step by step. -/
theorem tsL_snoc (T l : Nat) (es : List (Int × Int)) (vs : List Int) (v : Int) : tsL T l es (vs ++ [v]) = tsL T l es vs ++ ts1 T l (endsL es v) := by
  unfold tsL; rw [List.map_append, List.flatten_append, ← List.append_assoc]; simp
theorem tsL_nil (T l : Nat) (es : List (Int × Int)) : tsL T l es [] = (woL T 0 es).map (fixP l) := List.append_nil _
theorem tsL_len {n : Int} {es : List (Int × Int)} (hg : isGraphB n es = true) (T l : Nat) : ∀ vs : List Int, (∀ v ∈ vs, inB v 0 (n - 1) = true) → (tsL T l es vs).length ≤ es.length + 3 * vs.length := by
  intro vs hvs
  have h1 := woL_len T 0 es
  have h2 : ∀ vs : List Int, (∀ v ∈ vs, inB v 0 (n - 1) = true) → ((vs.map fun v => ts1 T l (endsL es v)).flatten).length ≤ 3 * vs.length := by
    intro vs
    induction vs with
    | nil => intro _; simp
    | cons v vs ih =>
      intro h
      have h3 := ih fun x hx => h x (List.mem_cons_of_mem _ hx)
      have h4 := (ends_three hg (h v (by simp))).2.1
      have h5 := ts1_len T l (endsL es v)
      simp only [List.map_cons, List.flatten_cons, List.length_append, List.length_cons]
      omega
  have h3 := h2 vs hvs
  unfold tsL tsB
  rw [List.length_append, List.length_map]
  omega
end Go.Proofs.Ytjgmoffkecnmcaa
