/- The edges at a vertex: other, at, ends, joins. -/
import Derived.Test.YtigdfcigoejjjaaCi2
import Derived.Test.YtigdfcigoejjjaaGr
namespace Go.Proofs.Ytigdfcigoejjjaa
open Go.RowKit
set_option linter.unusedSimpArgs false
set_option linter.unusedVariables false
set_option maxRecDepth 20000

theorem other_b (a b v : Int) (w : World) (r : Int) (hr : Hid (a + b - v = r)) (ha : 0 ≤ a ∧ a ≤ 1000) (hb : 0 ≤ b ∧ b ≤ 1000) (hv : 0 ≤ v ∧ v ≤ 1000) :
    Calls Try.prog 124 #[.agg #[.int .i64 a, .int .i64 b], .int .i64 v] w fun e w' => e = .returned (.int .i64 r) ∧ Below w.heap.size w w' := by
  have hw1 : wrap64 (a + b) = a + b := wrap64_small (by omega) (by omega)
  have hw2 : wrap64 (a + b - v) = a + b - v := wrap64_small (by omega) (by omega)
  go_enter Try.func124, Try.ntmps124
  go_wp2
  go_ret
  exact ⟨by rw [← hr.out]; rfl, by (repeat' (first | (with_reducible exact Below.refl _ _) | (with_reducible assumption) | (with_reducible refine Below.alloc ?_ ?_ _) | (with_reducible refine Below.drew ?_) | (with_reducible refine below_drewN ?_ _) | (with_reducible refine Below.setCell ?_ ?_ _) | (with_reducible refine Below.trans ?_ (Below.mono (by assumption) ?_)) | (first | omega | (simp only [World.size_alloc, World.size_setCell, World.size_drew]; omega) | (simp; omega) | (simp; done))))⟩

/-- The edges below k at the vertex v. -/
def atTo (es : List (Int × Int)) (v : Int) (k : Nat) : List Int := nbrTo (fun _ j => onB (es.getD j (0, 0)) v) 0 k
/-- The edges at the vertex v. -/
def atL (es : List (Int × Int)) (v : Int) : List Int := atTo es v es.length
theorem mem_atL {es : List (Int × Int)} {v a : Int} (h : a ∈ atL es v) : ∃ k : Nat, a = k ∧ k < es.length ∧ onB (es.getD k (0, 0)) v = true := by
  simp only [atL, atTo, nbrTo, List.mem_map, List.mem_filter, List.mem_range] at h
  obtain ⟨n, ⟨h1, h2⟩, rfl⟩ := h
  exact ⟨n, rfl, h1, h2⟩
theorem atL_len (es : List (Int × Int)) (v : Int) : (atL es v).length ≤ es.length := nbrTo_len (fun _ j => onB (es.getD j (0, 0)) v) 0 _

set_option maxHeartbeats 2000000 in
theorem at_own (n : Int) (A : Option Addr) (c : Nat) (es : List (Int × Int)) (v : Int) (w : World) (hl : es.length ≤ 1048576) (hr : RdE w A es) :
    Calls Try.prog 112 #[.agg #[.int .i64 n, .slice A es.length c], .int .i64 v] w fun e w' => ∃ A' c', e = .returned (.slice A' (atL es v).length c') ∧ w'.ownsRow w.heap.size 2 1 (.slice A' (atL es v).length c') (atL es v).length (cI (atL es v)) ∧ Below w.heap.size w w' := by
  obtain ⟨i0, hi, hz0, hz1, hz2⟩ := info_parts infoI
  generalize hm : es.length = L at *
  have Hm := Lib.hid hm
  have hat : Hid (atL es v = atTo es v L) := by show _ = _; rw [atL, hm]
  clear hm
  go_enter Try.func112, Try.ntmps112
  go_wp2
  go_loopw [5, 11] (fun s i wr => ∃ k : Nat, k ≤ L ∧ i = .int .i64 k ∧ wr.ownsRow w.heap.size 2 1 s (atTo es v k).length (cI (atTo es v k)) ∧ Below w.heap.size w wr) (fun _ i _ => L - (intOf i).toNat)
  case atStart => exact ⟨0, Nat.zero_le _, rfl, World.ownsRow_nil _ _ _ _, by (repeat' (first | (with_reducible exact Below.refl _ _) | (with_reducible assumption) | (with_reducible refine Below.alloc ?_ ?_ _) | (with_reducible refine Below.drew ?_) | (with_reducible refine below_drewN ?_ _) | (with_reducible refine Below.setCell ?_ ?_ _) | (with_reducible refine Below.trans ?_ (Below.mono (by assumption) ?_)) | (first | omega | (simp only [World.size_alloc, World.size_setCell, World.size_drew]; omega) | (simp; omega) | (simp; done))))⟩
  case round =>
    obtain ⟨k, hk, rfl, hown, hbel⟩ := hrel
    obtain ⟨A', c', rfl⟩ := own_form hown
    have Hown := Lib.hid hown; clear hown
    have hsz := hbel.size
    by_cases hlt : k < L
    · obtain ⟨b, off, rfl, hb, hc⟩ := (hr.below hbel).pos (by have := Hm.out; omega)
      obtain ⟨hc0, hc1⟩ := hc k (by have := Hm.out; omega)
      obtain ⟨⟨x, y⟩, Hx⟩ : ∃ x, Hid (es.getD k (0, 0) = x) := ⟨_, rfl⟩
      rw [Hx.out] at hc0 hc1
      dsimp only at hc0 hc1
      clear hc hr
      obtain ⟨q, hq⟩ : ∃ q, Hid (onB (x, y) v = q) := ⟨_, rfl⟩
      have c1 := fun W => isOn_b x y v W q hq
      have hq2 : Hid (onB (es.getD k (0, 0)) v = q) := by show _ = _; rw [Hx.out]; exact hq.out
      have hnl : Hid ((atTo es v k).length ≤ k) := nbrTo_len _ _ _
      cases q
      · go_wp2_with fail
        refine (c1 _).mono ?_
        rintro e w2 ⟨rfl, hb2⟩
        simp only [World.size_alloc, World.size_setCell, World.size_drew] at hb2
        have hz2' := hb2.size
        simp only [World.size_alloc, World.size_setCell, World.size_drew] at hz2'
        go_wp2
        refine ⟨⟨k + 1, by omega, by go_num, ?_, by (repeat' (first | (with_reducible exact Below.refl _ _) | (with_reducible assumption) | (with_reducible refine Below.alloc ?_ ?_ _) | (with_reducible refine Below.drew ?_) | (with_reducible refine below_drewN ?_ _) | (with_reducible refine Below.setCell ?_ ?_ _) | (with_reducible refine Below.trans ?_ (Below.mono (by assumption) ?_)) | (first | omega | (simp only [World.size_alloc, World.size_setCell, World.size_drew]; omega) | (simp; omega) | (simp; done))))⟩, by simp [intOf]; omega⟩
        have : atTo es v (k + 1) = atTo es v k := (nbrTo_no (are := fun _ j => onB (es.getD j (0, 0)) v) (i := 0) hq2.out).symm
        rw [this]
        exact own_below Hown.out (by (repeat' (first | (with_reducible exact Below.refl _ _) | (with_reducible assumption) | (with_reducible refine Below.alloc ?_ ?_ _) | (with_reducible refine Below.drew ?_) | (with_reducible refine below_drewN ?_ _) | (with_reducible refine Below.setCell ?_ ?_ _) | (with_reducible refine Below.trans ?_ (Below.mono (by assumption) ?_)) | (first | omega | (simp only [World.size_alloc, World.size_setCell, World.size_drew]; omega) | (simp; omega) | (simp; done)))))
      · have Hn : Hid (atTo es v k ++ [(k : Int)] = atTo es v (k + 1)) := nbrTo_yes (are := fun _ j => onB (es.getD j (0, 0)) v) (i := 0) hq2.out
        go_wp2_with fail
        refine (c1 _).mono ?_
        rintro e w2 ⟨rfl, hb2⟩
        simp only [World.size_alloc, World.size_setCell, World.size_drew] at hb2
        have hz2' := hb2.size
        simp only [World.size_alloc, World.size_setCell, World.size_drew] at hz2'
        have hb3 : Below wr.heap.size wr (w2.alloc (.cells #[.int .i64 (k : Int)] 2)) := by (repeat' (first | (with_reducible exact Below.refl _ _) | (with_reducible assumption) | (with_reducible refine Below.alloc ?_ ?_ _) | (with_reducible refine Below.drew ?_) | (with_reducible refine below_drewN ?_ _) | (with_reducible refine Below.setCell ?_ ?_ _) | (with_reducible refine Below.trans ?_ (Below.mono (by assumption) ?_)) | (first | omega | (simp only [World.size_alloc, World.size_setCell, World.size_drew]; omega) | (simp; omega) | (simp; done))))
        have hown2 := own_below Hown.out hb3
        go_wp2_with (first
          | (at_builtin; refine wpList_append_own _ rfl _ _ 25 rfl w.heap.size 2 i0 (.int .i64 0) 1 8 Try.underlying25 hi hz0 hz1 hz2 rfl (by decide) _ _ _ rfl hown2 ⟨w2.heap.size, 0, none⟩ 1 1 [.int .i64 (k : Int)] rfl rfl ?c1 ?c2 ?c3 ?c4 ?c5 ?_))
        case c1 =>
          intro j u hj
          match j, hj with
          | 0, hj => simp at hj; subst hj; simp [Addr.add]
        case c2 => intro u hu; simp at hu; subst hu; rfl
        case c3 => have := hnl.out; unfold maxLen; omega
        case c4 => have := hnl.out; omega
        case c5 => simp; omega
        intro v' w3 hown' hgrow _
        have hb4 : Below w.heap.size w w3 := own_grown_below (hbel.trans (hb3.mono hsz)) hown2 hgrow (by simp; omega)
        have hown3 := own_snocI hown' Hn.out
        have hl3 : (atTo es v (k + 1)).length = (atTo es v k).length + 1 := by rw [← Hn.out]; simp
        clear hown' hgrow hown2
        have H3 := Lib.hid hown3; have H4 := Lib.hid hl3; clear hown3 hl3
        go_wp2
        refine ⟨⟨k + 1, by omega, by go_num, ?_, hb4⟩, by simp [intOf]; omega⟩
        rw [H4.out]; exact H3.out
    · obtain rfl : k = L := by omega
      go_wp2
      go_ret
      rw [hat.out]
      exact ⟨A', c', rfl, Hown.out, hbel⟩

/-- The other ends of the edges at v. -/
def endsL (es : List (Int × Int)) (v : Int) : List Int := (atL es v).map fun i => (es.getD i.toNat (0, 0)).1 + (es.getD i.toNat (0, 0)).2 - v
theorem endsL_len (es : List (Int × Int)) (v : Int) : (endsL es v).length = (atL es v).length := by simp [endsL]
theorem take_succ_map (X : List Int) (f : Int → Int) (k : Nat) (hk : k < X.length) : (X.take k).map f ++ [f (X.getD k 0)] = (X.take (k + 1)).map f := by
  have h : X.getD k 0 = X[k] := by simp [List.getD, hk]
  rw [List.take_add_one, List.getElem?_eq_getElem hk, List.map_append, h]
  rfl


/-- How often b is the other end of an edge at a. -/
def joinN (es : List (Int × Int)) (a b : Int) : Nat := ((endsL es a).filter fun v => decide (v = b)).length
/-- An edge joins a and b. -/
def joinB (es : List (Int × Int)) (a b : Int) : Bool := es.any fun e => (decide (e.1 = a) && decide (e.2 = b)) || (decide (e.2 = a) && decide (e.1 = b))
theorem joinN_pos (es : List (Int × Int)) (a b : Int) : decide (0 < joinN es a b) = joinB es a b := by
  rw [Bool.eq_iff_iff, decide_eq_true_eq, joinN, List.length_pos_iff_exists_mem]
  simp only [joinB, List.any_eq_true, Bool.or_eq_true, Bool.and_eq_true, decide_eq_true_eq]
  constructor
  · rintro ⟨v, hv⟩
    simp only [List.mem_filter, endsL, List.mem_map, decide_eq_true_eq] at hv
    obtain ⟨⟨i, hi, h1⟩, rfl⟩ := hv
    obtain ⟨k, rfl, hk, hon⟩ := mem_atL hi
    rw [Int.toNat_natCast] at h1
    refine ⟨es.getD k (0, 0), by simp [List.getD, hk], ?_⟩
    simp only [onB, Bool.or_eq_true, decide_eq_true_eq] at hon
    rcases hon with h | h
    · left; omega
    · right; omega
  · rintro ⟨e, he, h⟩
    obtain ⟨k, hk, rfl⟩ := List.mem_iff_getElem.1 he
    refine ⟨b, ?_⟩
    simp only [List.mem_filter, endsL, List.mem_map, decide_eq_true_eq, and_true]
    refine ⟨(k : Int), ?_, ?_⟩
    · simp only [atL, atTo, nbrTo, List.mem_map, List.mem_filter, List.mem_range]
      refine ⟨k, ⟨hk, ?_⟩, rfl⟩
      simp [onB, List.getD, hk]
      omega
    · rw [Int.toNat_natCast]
      simp [List.getD, hk]
      omega
theorem filter_take (X : List Int) (b : Int) (k : Nat) (hk : k < X.length) : ((X.take (k + 1)).filter fun v => decide (v = b)).length = ((X.take k).filter fun v => decide (v = b)).length + (if X.getD k 0 = b then 1 else 0) := by
  have h : X.getD k 0 = X[k] := by simp [List.getD, hk]
  rw [List.take_add_one, List.getElem?_eq_getElem hk, List.filter_append, List.length_append, h]
  congr 1
  by_cases e : X[k] = b
  · simp [e]
  · simp [e]

end Go.Proofs.Ytigdfcigoejjjaa
