/- The reference's l08Least. -/
/- Three edges at a vertex; colours that do not depend on what lies above the diagonal. No statement of the program is proved here. -/
/- How many colours edges, or vertices and edges, want at least. No statement of the program is proved here. -/
import Derived.Test.YtkpnplldnihalaaLp6
import Derived.Test.YtkpnplldnihalaaAt
import Derived.Test.YtkpnplldnihalaaIs5
import Derived.Test.YtkpnplldnihalaaTo1
import Derived.Test.YtkpnplldnihalaaCw
import Derived.Test.YtkpnplldnihalaaCi4
import Derived.Test.YtkpnplldnihalaaSt1
namespace Go.Proofs.Ytkpnplldnihalaa
open Go.RowKit
set_option linter.unusedSimpArgs false
set_option linter.unusedVariables false
set_option maxRecDepth 20000

set_option maxHeartbeats 2000000 in
theorem l08Least_b (g off c T r : Nat) (R : Nat → Nat) (M : Nat → Nat → Int) (w : World) (hr1 : 1 ≤ r) (hr : r ≤ 1000) (hT : T ≤ 1000) (hok : Hid (okK (areM M) T r = true)) (hno : Hid (∀ j, 1 ≤ j → j < r → okK (areM M) T j = false)) (hM : Mat w g off T T R M) :
    Calls Try.prog 87 #[.slice (some ⟨g, off, none⟩) T c] w fun e w' => e = .returned (.int .i64 r) ∧ Below w.heap.size w w' := by
  have Hm : Hid (∀ W, Below w.heap.size w W → Mat W g off T T R M) := fun W hW => hM.keep hW
  have cl := fun (k : Nat) (h1 : 1 ≤ k) (h2 : k ≤ 1000) (W : World) (hW : Hid (Below w.heap.size w W)) (b : Nat) (o : Option (List Int)) (Ho : Hid (fillO (areM M) (fun x y => decide (x = y)) (candF k) T [] = o)) =>
    Ho.out ▸ fill_b g off c T R M k w (by omega) hT Hm T 0 b 0 0 [] W (by omega) rfl (.inl rfl) (fun j hj => by omega) hW
  have Cl := Lib.hid cl
  clear cl Hm hM
  go_enter Try.func87, Try.ntmps87
  go_wp2
  go_loopw [3] (fun s wr => ∃ k : Nat, 1 ≤ k ∧ k ≤ r ∧ s = .int .i64 k ∧ Hid (Below w.heap.size w wr)) (fun s _ => r - (intOf s).toNat)
  case atStart => exact ⟨1, Nat.le_refl _, hr1, rfl, (by show Below _ _ _; (repeat' (first | (with_reducible exact Below.refl _ _) | (with_reducible assumption) | (with_reducible refine Below.alloc ?_ ?_ _) | (with_reducible refine Below.drew ?_) | (with_reducible refine below_drewN ?_ _) | (with_reducible refine Below.setCell ?_ ?_ _) | (with_reducible refine Below.trans ?_ (Below.mono (by assumption) ?_)) | (first | omega | (simp only [World.size_alloc, World.size_setCell, World.size_drew]; omega) | (simp; omega) | (simp; done)))))⟩
  case round =>
    obtain ⟨k, hk1, hk2, rfl, Hbel⟩ := hrel
    obtain ⟨o, Ho⟩ : ∃ o, Hid (fillO (areM M) (fun x y => decide (x = y)) (candF k) T [] = o) := ⟨_, rfl⟩
    have Hb1 : Hid (Below w.heap.size w (wr.alloc (.cells #[] 2))) := Hbel.out.alloc Hbel.out.size _
    have ct := Cl.out k (by omega) (by omega) (wr.alloc (.cells #[] 2)) Hb1 wr.heap.size o Ho
    have hokk : Hid (okK (areM M) T k = o.isSome) := by show _ = _; rw [← Ho.out]; rfl
    by_cases hlt : k < r
    · have ho : o.isSome = false := by rw [← hokk.out]; exact hno.out k hk1 hlt
      go_wp2_with fail
      refine ct.mono ?_
      rintro e w2 ⟨rfl, hb2⟩
      have Hb2 : Hid (Below w.heap.size w w2) := Hb1.out.trans (hb2.mono Hb1.out.size)
      clear hb2 ct
      rw [ho]
      go_wp2
      refine ⟨⟨k + 1, by omega, by omega, by go_num, Hb2⟩, by simp [intOf]; omega⟩
    · obtain rfl : k = r := by omega
      have ho : o.isSome = true := by rw [← hokk.out]; exact hok.out
      go_wp2_with fail
      refine ct.mono ?_
      rintro e w2 ⟨rfl, hb2⟩
      have Hb2 : Hid (Below w.heap.size w w2) := Hb1.out.trans (hb2.mono Hb1.out.size)
      clear hb2 ct
      rw [ho]
      go_wp2
      go_ret
      exact ⟨rfl, Hb2.out⟩
end Go.Proofs.Ytkpnplldnihalaa
namespace Go.Proofs.Ytkpnplldnihalaa
open Go.RowKit
set_option linter.unusedSimpArgs false
set_option linter.unusedVariables false
set_option maxRecDepth 20000

theorem nbr_congr {are are' : Nat → Nat → Bool} {i : Nat} (h : ∀ j, j < i → are i j = are' i j) : nbr are i = nbr are' i := by
  unfold nbr nbrTo
  congr 1
  refine List.filter_congr fun j hj => ?_
  exact h j (by simpa using hj)
theorem fillO_congr {are are' : Nat → Nat → Bool} {bad : Int → Int → Bool} {cand : List Int → Nat} {T : Nat} (h : ∀ i j, j < i → i < T → are i j = are' i j) : ∀ (r : Nat) (pre : List Int), pre.length + r = T → fillO are bad cand r pre = fillO are' bad cand r pre
  | 0, _, _ => rfl
  | r + 1, pre, hl => by
    rw [fillO, fillO]
    congr 1
    funext x
    have e : fitsB are bad pre (x : Int) = fitsB are' bad pre (x : Int) := by
      unfold fitsB
      rw [nbr_congr fun j hj => h pre.length j hj (by omega)]
    rw [e, fillO_congr h r _ (by simp; omega)]
theorem okK_congr {are are' : Nat → Nat → Bool} {T : Nat} (h : ∀ i j, j < i → i < T → are i j = are' i j) (k : Nat) : okK are T k = okK are' T k := by
  unfold okK
  rw [fillO_congr h T [] (by simp)]
/-- A vertex's degree is the number of the edges on it, if no edge is a loop. -/
theorem degs_at {n : Nat} {es : List (Int × Int)} (hin : InN n es) (hne : ∀ j, j < es.length → (es.getD j (0, 0)).1 ≠ (es.getD j (0, 0)).2) {v : Nat} (hv : v < n) : ∀ k, k ≤ es.length → (degs n (es.take k)).getD v 0 = ((List.range k).filter fun j => onB (es.getD j (0, 0)) v).length
  | 0, _ => by simp [degs, List.getD, hv]
  | k + 1, hk => by
    have ih := degs_at hin hne hv k (by omega)
    obtain ⟨a, b, hab, ha, hb⟩ := hin k (by omega)
    have hn := hne k (by omega)
    rw [hab] at hn
    dsimp only at hn
    rw [take_snocE es k (by omega), hab, degs_snoc, List.range_succ, List.filter_append, List.length_append]
    simp only [Int.toNat_natCast]
    rw [incAt_getD, incAt_getD, incAt_getD, incAt_len, degs_len]
    have hon : onB (es.getD k (0, 0)) v = true ↔ (a = v ∨ b = v) := by
      rw [hab]; simp only [onB, Bool.or_eq_true, decide_eq_true_eq]; omega
    have hf : (([k].filter fun j => onB (es.getD j (0, 0)) v).length : Int) = if a = v ∨ b = v then 1 else 0 := by
      by_cases e : a = v ∨ b = v
      · rw [if_pos e, List.filter_cons, if_pos (hon.2 e)]; rfl
      · rw [if_neg e]
        have : onB (es.getD k (0, 0)) v = false := by
          cases h : onB (es.getD k (0, 0)) v
          · rfl
          · exact absurd (hon.1 h) e
        rw [List.filter_cons, if_neg (by rw [this]; decide)]; rfl
    rw [Int.natCast_add, hf, ← ih]
    by_cases ea : a = v
    · rw [if_neg (c := b = v ∧ b < n) (by omega), if_pos (c := a = v ∧ a < n) (by omega), if_pos (c := a = v ∨ b = v) (.inl ea), ea]
    · by_cases eb : b = v
      · rw [if_pos (c := b = v ∧ b < n) (by omega), if_neg (c := a = b ∧ a < n) (by omega), if_pos (c := a = v ∨ b = v) (.inr eb), eb]
      · rw [if_neg (c := b = v ∧ b < n) (by omega), if_neg (c := a = v ∧ a < n) (by omega), if_neg (c := a = v ∨ b = v) (by omega)]; omega
theorem three_at {n : Nat} {es : List (Int × Int)} (hin : InN n es) (hne : ∀ j, j < es.length → (es.getD j (0, 0)).1 ≠ (es.getD j (0, 0)).2) {v : Nat} (hv : v < n) (hd : (degs n es).getD v 0 = 3) :
    ∃ a b c : Nat, b < a ∧ c < b ∧ a < es.length ∧ onB (es.getD a (0, 0)) v = true ∧ onB (es.getD b (0, 0)) v = true ∧ onB (es.getD c (0, 0)) v = true := by
  have h1 := degs_at hin hne hv es.length (Nat.le_refl _)
  rw [List.take_length, hd] at h1
  have h2 : ((List.range es.length).filter fun j => onB (es.getD j (0, 0)) v).length = 3 := by omega
  have hp : (((List.range es.length).filter fun j => onB (es.getD j (0, 0)) v)).Pairwise (· < ·) := List.Pairwise.filter _ List.pairwise_lt_range
  have hm : ∀ x ∈ ((List.range es.length).filter fun j => onB (es.getD j (0, 0)) v), x < es.length ∧ onB (es.getD x (0, 0)) v = true := fun x hx => by
    rw [List.mem_filter, List.mem_range] at hx; exact hx
  generalize ((List.range es.length).filter fun j => onB (es.getD j (0, 0)) v) = F at *
  match F, h2, hp, hm with
  | [x0, x1, x2], _, hp, hm =>
    rw [List.pairwise_cons, List.pairwise_cons] at hp
    have a1 := hp.1 x1 (by simp)
    have a2 := hp.2.1 x2 (by simp)
    exact ⟨x2, x1, x0, a2, a1, (hm x2 (by simp)).1, (hm x2 (by simp)).2, (hm x1 (by simp)).2, (hm x0 (by simp)).2⟩
theorem near_of {a b : Int × Int} {v : Int} (ha : onB a v = true) (hb : onB b v = true) : nearB a b = true := by
  simp only [onB, nearB, Bool.or_eq_true, decide_eq_true_eq] at *
  omega
end Go.Proofs.Ytkpnplldnihalaa
namespace Go.Proofs.Ytkpnplldnihalaa
open Go.RowKit
set_option linter.unusedSimpArgs false
set_option linter.unusedVariables false
set_option maxRecDepth 20000

theorem graph_three {n : Int} {es : List (Int × Int)} (h : isGraphB n es = true) : ∃ a b c : Nat, b < a ∧ c < b ∧ a < es.length ∧ onB (es.getD a (0, 0)) 0 = true ∧ onB (es.getD b (0, 0)) 0 = true ∧ onB (es.getD c (0, 0)) 0 = true := by
  have h2 := h
  simp only [isGraphB, Bool.and_eq_true] at h2
  have h3 := areEdgesB_in h2.1
  have hn := isGraphB_n h
  have hd : (degs n.toNat es).getD 0 0 = 3 := by
    have hall := h2.2
    have key : ∀ xs : List Int, (xs.all fun k => decide (k = 3)) = true → 0 < xs.length → xs.getD 0 0 = 3 := fun xs hx hl => by
      rw [List.all_eq_true] at hx
      match xs, hl with
      | x :: xs, _ => simpa using hx x (by simp)
    refine key _ ?_ (by rw [degs_len]; omega)
    exact hall.2.2
  exact three_at (v := 0) h3.2.2.2.1 h3.2.2.2.2 (by omega) hd
theorem numK_ge {are : Nat → Nat → Bool} {T m : Nat} (hT : 1 ≤ T) (h : ∀ k : Int, k < m → fillO are (fun x y => decide (x = y)) (candF k) T [] = none) : m ≤ numK are T := by
  obtain ⟨_, h2, _⟩ := numK_spec (are := are) hT
  rcases Nat.lt_or_ge (numK are T) m with hlt | hge
  · unfold okK at h2
    rw [h (numK are T : Int) (by omega)] at h2
    cases h2
  · exact hge
theorem total_four {N : Nat} {es : List (Int × Int)} (hg : isGraphB N es = true) : 4 ≤ numK (totalAre N es) (N + es.length) := by
  obtain ⟨a, b, c, h1, h2, h3, h4, h5, h6⟩ := graph_three hg
  have hn := isGraphB_n hg
  refine numK_ge (by omega) fun k hk => ?_
  have nn : ∀ x y : Nat, onB (es.getD x (0, 0)) 0 = true → onB (es.getD y (0, 0)) 0 = true → totalAre N es (N + x) (N + y) = true := fun x y hx hy => by
    unfold totalAre
    rw [if_neg (by omega), if_neg (by omega), show N + x - N = x by omega, show N + y - N = y by omega]
    exact near_of hx hy
  have nv : ∀ x : Nat, onB (es.getD x (0, 0)) 0 = true → totalAre N es (N + x) 0 = true := fun x hx => by
    unfold totalAre
    rw [if_neg (by omega), if_pos (by omega), show N + x - N = x by omega]
    exact hx
  exact fillO_four (a := N + a) (b := N + b) (c := N + c) (d := 0) (by omega) (by omega) (by omega) (by omega) (nn a b h4 h5) (nn a c h4 h6) (nn b c h5 h6) (nv a h4) (nv b h5) (nv c h6) (by omega)
theorem close_three {n : Int} {es : List (Int × Int)} (hg : isGraphB n es = true) : 3 ≤ numK (closeAre es) es.length := by
  obtain ⟨a, b, c, h1, h2, h3, h4, h5, h6⟩ := graph_three hg
  refine numK_ge (by omega) fun k hk => ?_
  have nn : ∀ x y : Nat, onB (es.getD x (0, 0)) 0 = true → onB (es.getD y (0, 0)) 0 = true → closeAre es x y = true := fun x y hx hy => by
    unfold closeAre closeB
    rw [near_of hx hy]; rfl
  exact fillO_three (a := a) (b := b) (c := c) h1 h2 h3 (nn a b h4 h5) (nn a c h4 h6) (nn b c h5 h6) (by omega)
end Go.Proofs.Ytkpnplldnihalaa
