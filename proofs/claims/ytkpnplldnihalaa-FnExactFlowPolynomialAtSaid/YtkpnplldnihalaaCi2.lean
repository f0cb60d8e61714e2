/- Lists of lists: what a slice of slices reads as; neighbours. -/
import Derived.Test.YtkpnplldnihalaaCi1
namespace Go.Proofs.Ytkpnplldnihalaa
open Go.RowKit
set_option linter.unusedSimpArgs false
set_option linter.unusedVariables false
set_option maxRecDepth 20000

/-- A slice of slices that begins at A reads as the lists xss. -/
def RdL (w : World) (A : Option Addr) (xss : List (List Int)) : Prop :=
  xss = [] ∨ ∃ b off, A = some ⟨b, off, none⟩ ∧ b < w.heap.size ∧ ∀ j, j < xss.length → ∃ A' c, w.cell? ⟨b, off + j, none⟩ = some (.slice A' (xss.getD j []).length c) ∧ RdI w A' (xss.getD j [])
theorem RdL.below {w w' : World} {A : Option Addr} {xss : List (List Int)} (h : RdL w A xss) (hb : Below w.heap.size w w') : RdL w' A xss := by
  rcases h with h | ⟨b, off, e, hlt, hc⟩
  · exact .inl h
  · exact .inr ⟨b, off, e, Nat.lt_of_lt_of_le hlt hb.size, fun j hj => by
      obtain ⟨A', c, h1, h2⟩ := hc j hj
      exact ⟨A', c, (hb.cell (p := ⟨b, off + j, none⟩) hlt).trans h1, h2.below hb⟩⟩
theorem RdL.pos {w : World} {A : Option Addr} {xss : List (List Int)} (h : RdL w A xss) (hp : 0 < xss.length) : ∃ b off, A = some ⟨b, off, none⟩ ∧ b < w.heap.size ∧ ∀ j, j < xss.length → ∃ A' c, w.cell? ⟨b, off + j, none⟩ = some (.slice A' (xss.getD j []).length c) ∧ RdI w A' (xss.getD j []) := by
  rcases h with rfl | h
  · simp at hp
  · exact h

/-- Likewise, outside block g. -/
def RdO (w : World) (g : Nat) (A : Option Addr) (xs : List Int) : Prop :=
  xs = [] ∨ ∃ b off, A = some ⟨b, off, none⟩ ∧ b ≠ g ∧ b < w.heap.size ∧ ∀ j, j < xs.length → w.cell? ⟨b, off + j, none⟩ = some (.int .i64 (xs.getD j 0))
theorem RdO.rd {w : World} {g : Nat} {A : Option Addr} {xs : List Int} (h : RdO w g A xs) : RdI w A xs := by
  rcases h with h | ⟨b, off, e, _, hlt, hc⟩
  · exact .inl h
  · exact .inr ⟨b, off, e, hlt, hc⟩
/-- Every old block but g is as it was. -/
def SameBut (g : Nat) (w w' : World) : Prop := w.heap.size ≤ w'.heap.size ∧ ∀ b, b < w.heap.size → b ≠ g → w'.heap[b]? = w.heap[b]?
theorem SameBut.refl (g : Nat) (w : World) : SameBut g w w := ⟨Nat.le_refl _, fun _ _ _ => rfl⟩
theorem SameBut.trans {g : Nat} {a b c : World} (h : SameBut g a b) (k : SameBut g b c) : SameBut g a c :=
  ⟨Nat.le_trans h.1 k.1, fun i hi hg => (k.2 i (Nat.lt_of_lt_of_le hi h.1) hg).trans (h.2 i hi hg)⟩
theorem SameBut.of_below {g : Nat} {w w' : World} (h : Below w.heap.size w w') : SameBut g w w' := ⟨h.size, fun b hb _ => h.block b hb⟩
theorem SameBut.of_below' {g B : Nat} {wo w w' : World} (h : SameBut g wo w) (hb : Below B w w') (hB : wo.heap.size ≤ B) : SameBut g wo w' :=
  ⟨Nat.le_trans h.1 hb.size, fun b hlt hg => (hb.block b (by omega)).trans (h.2 b hlt hg)⟩
theorem SameBut.set {g : Nat} {w w' : World} (h : SameBut g w w') (i : Nat) (v : Value) : SameBut g w (w'.setCell ⟨g, i, none⟩ v) :=
  ⟨by simpa [World.setCell] using h.1, fun b hb hg => (Below.heap_setCell w' ⟨g, i, none⟩ v b hg).trans (h.2 b hb hg)⟩
theorem RdO.keep {w w' : World} {g : Nat} {A : Option Addr} {xs : List Int} (h : RdO w g A xs) (k : SameBut g w w') : RdO w' g A xs := by
  rcases h with h | ⟨b, off, e, hg, hlt, hc⟩
  · exact .inl h
  · exact .inr ⟨b, off, e, hg, Nat.lt_of_lt_of_le hlt k.1, fun j hj => (World.cell?_of_block (w := w) (a := ⟨b, off + j, none⟩) (k.2 b hlt hg)).trans (hc j hj)⟩
theorem own_rdO {w : World} {base g : Nat} {e : TypeId} {A : Option Addr} {n c : Nat} {xs : List Int} (h : w.ownsRow base e 1 (.slice A n c) n (cI xs)) (hg : g < base) : RdO w g A xs := by
  obtain ⟨h1, h2⟩ := h
  rw [length_cI] at h1
  rcases h2 with ⟨_, h2⟩ | ⟨g', cap, cur, hv, hg', hh, _, _, hs, ht⟩
  · exact .inl (List.eq_nil_of_length_eq_zero (by omega))
  · injection hv with hv _ _
    refine .inr ⟨g', 0, hv, by omega, Blk.lt (t := e) (cs := cur) hh, fun j hj => ?_⟩
    have := getD_cI xs j hj
    rw [← ht, List.getElem?_take_of_lt (by omega)] at this
    rw [Nat.zero_add, Blk.cell (t := e) hh, ← Array.getElem?_toList]; exact this
theorem own_set_far {w : World} {base g i : Nat} {e : TypeId} {size n : Nat} {v u : Value} {xs : List Value} (h : w.ownsRow base e size v n xs) (hg : g < base) : (w.setCell ⟨g, i, none⟩ u).ownsRow base e size v n xs := ownsRow_setCell_below h hg u

/-- The lesser neighbours of i below k. -/
def nbrTo (are : Nat → Nat → Bool) (i k : Nat) : List Int := ((List.range k).filter (are i)).map fun (j : Nat) => (j : Int)
/-- The lesser neighbours of i. -/
def nbr (are : Nat → Nat → Bool) (i : Nat) : List Int := nbrTo are i i
theorem nbrTo_yes {are : Nat → Nat → Bool} {i k : Nat} (h : are i k = true) : nbrTo are i k ++ [(k : Int)] = nbrTo are i (k + 1) := by simp [nbrTo, List.range_succ, h]
theorem nbrTo_no {are : Nat → Nat → Bool} {i k : Nat} (h : are i k = false) : nbrTo are i k = nbrTo are i (k + 1) := by simp [nbrTo, List.range_succ, h]
theorem nbrTo_len (are : Nat → Nat → Bool) (i k : Nat) : (nbrTo are i k).length ≤ k := by
  have := List.length_filter_le (are i) (List.range k)
  simpa [nbrTo] using this
/-- All lists of lesser neighbours. -/
def nbrs (are : Nat → Nat → Bool) (m : Nat) : List (List Int) := (List.range m).map (nbr are)
theorem nbrs_len (are : Nat → Nat → Bool) (m : Nat) : (nbrs are m).length = m := by simp [nbrs]
theorem nbrs_getD (are : Nat → Nat → Bool) (m j : Nat) (h : j < m) : (nbrs are m).getD j [] = nbr are j := by simp [nbrs, List.getD, h]

/-- A function value on two numbers below m, the second the lesser. -/
def Pred2 (g : Nat) (fb lb : Array Value) (are : Nat → Nat → Bool) (m : Nat) (w : World) : Prop :=
  ∀ (W : World) (i k : Nat), k < i → i < m → Below w.heap.size w W → Calls Try.prog g (fb ++ (#[.int .i64 i, .int .i64 k] ++ lb)) W fun e w' => e = .returned (.bool (are i k)) ∧ Below W.heap.size W w'

theorem infoL : (Try.prog.info? 36).map (fun i => (i.zero, i.size, i.bytes)) = some (some (.slice none 0 0), 1, 24) := by kernel_rfl
theorem made_list (n : Nat) : madeCells (Value.cells (.slice none 0 0)) (n * 1) = (List.replicate n (Value.slice none 0 0)).toArray := by
  rw [Nat.mul_one]
  apply Array.ext
  · simp [madeCells]
  · intro i h1 h2
    simp [madeCells, Value.cells, Nat.mod_one]
theorem blkV_set {w : World} {g t i : Nat} {vs : List Value} {v u : Value} (h : Blk w g t (vs.set i v).toArray) : Blk (w.setCell ⟨g, i, none⟩ u) g t (vs.set i u).toArray :=
  (h.set_ i u).eq_ (by simp)

set_option maxHeartbeats 2000000 in
theorem neighbours_b (m : Nat) (g : Nat) (fb lb : Array Value) (are : Nat → Nat → Bool) (w : World) (hm : m ≤ 100000) (eg0 : Ent g) (hp : Pred2 g fb lb are m w) :
    Calls Try.prog 111 #[.int .i64 m, .func (.func g) fb lb] w fun e w' => e = .returned (.slice (some ⟨w.heap.size, 0, none⟩) m m) ∧ RdL w' (some ⟨w.heap.size, 0, none⟩) (nbrs are m) ∧ Below w.heap.size w w' := by
  obtain ⟨i0, hi, hz0, hz1, hz2⟩ := info_parts infoI
  have hmk := mk_row Try.underlying79 infoL m (by omega) (by omega)
  simp only [made_list] at hmk
  have eg := eg0
  unfold Ent at eg
  clear eg0
  go_enter Try.func111, Try.ntmps111
  go_wp2
  go_loopw [11] (fun s wr => ∃ (i : Nat) (vs : List Value), i ≤ m ∧ s = .int .i64 i ∧ vs.length = m ∧ Blk wr w.heap.size 36 vs.toArray ∧ (∀ j, j < i → ∃ A c, vs.getD j undef = .slice A (nbr are j).length c ∧ RdO wr w.heap.size A (nbr are j)) ∧ (∀ j, i ≤ j → j < m → vs.getD j undef = .slice none 0 0) ∧ Below w.heap.size w wr) (fun i _ => m - (intOf i).toNat)
  case atStart =>
    exact ⟨0, List.replicate m (.slice none 0 0), Nat.zero_le _, rfl, by simp, Blk.new _ _ _, by intro j hj; omega, by intro j _ hj; simp [List.getD, hj], by (repeat' (first | (with_reducible exact Below.refl _ _) | (with_reducible assumption) | (with_reducible refine Below.alloc ?_ ?_ _) | (with_reducible refine Below.drew ?_) | (with_reducible refine below_drewN ?_ _) | (with_reducible refine Below.setCell ?_ ?_ _) | (with_reducible refine Below.trans ?_ (Below.mono (by assumption) ?_)) | (first | omega | (simp only [World.size_alloc, World.size_setCell, World.size_drew]; omega) | (simp; omega) | (simp; done))))⟩
  case round =>
    obtain ⟨i, vs, hk, rfl, hvl, hB, hrow, hnil, hbel⟩ := hrel
    obtain ⟨wo, rfl⟩ : ∃ wo : World, wo = wr := ⟨_, rfl⟩
    have HB := Lib.hid hB; clear hB
    have Hrow := Lib.hid hrow; clear hrow
    have Hnil := Lib.hid hnil; clear hnil
    have Hvl := Lib.hid hvl; clear hvl
    by_cases hlt : i < m
    · go_wp2_with fail
      go_loopw [15] (fun s wi => ∃ (k : Nat) (v : Value), k ≤ i ∧ s = .int .i64 k ∧ Blk wi w.heap.size 36 (vs.set i v).toArray ∧ wi.ownsRow wo.heap.size 2 1 v (nbrTo are i k).length (cI (nbrTo are i k)) ∧ SameBut w.heap.size wo wi ∧ Below w.heap.size w wi) (fun i' _ => i - (intOf i').toNat)
      case atStart =>
        refine ⟨0, .slice none 0 0, Nat.zero_le _, rfl, ?_, World.ownsRow_nil _ _ _ _, SameBut.refl _ _, hbel⟩
        refine HB.out.eq_ ?_
        congr 1
        apply List.ext_getElem?
        intro j
        rw [List.getElem?_set]
        by_cases e : i = j
        · subst e
          have h1 := Hnil.out i (Nat.le_refl _) hlt
          have h2 := Hvl.out
          simp only [List.getD_eq_getElem?_getD, List.getElem?_eq_getElem (show i < vs.length by omega), Option.getD_some] at h1
          simp [h2, hlt, h1]
        · simp [e]
      case round =>
        obtain ⟨k, v, hk2, rfl, hB, hown, hsame, hbi⟩ := hrel
        obtain ⟨A, c, rfl⟩ := own_form hown
        have hsz := hsame.1
        have HBl := HB.out.lt
        by_cases hlt2 : k < i
        · obtain ⟨q, hq⟩ : ∃ q, Hid (are i k = q) := ⟨_, rfl⟩
          have hcall := hp wr i k hlt2 hlt hbi
          rw [hq.out] at hcall
          have HB2 := Lib.hid hB; clear hB
          have Hown := Lib.hid hown; clear hown
          cases q
          · go_wp2_with fail
            refine hcall.mono ?_
            rintro e w2 ⟨rfl, hb2⟩
            have hlt3 := HB2.out.lt
            go_wp2
            refine ⟨⟨k + 1, _, by omega, by go_num, HB2.out.below hb2 hlt3, ?_, hsame.of_below' hb2 (by omega), by (repeat' (first | (with_reducible exact Below.refl _ _) | (with_reducible assumption) | (with_reducible refine Below.alloc ?_ ?_ _) | (with_reducible refine Below.drew ?_) | (with_reducible refine below_drewN ?_ _) | (with_reducible refine Below.setCell ?_ ?_ _) | (with_reducible refine Below.trans ?_ (Below.mono (by assumption) ?_)) | (first | omega | (simp only [World.size_alloc, World.size_setCell, World.size_drew]; omega) | (simp; omega) | (simp; done))))⟩, by simp [intOf]; omega⟩
            rw [← nbrTo_no hq.out]; exact own_below Hown.out hb2
          · go_wp2_with fail
            refine hcall.mono ?_
            rintro e w2 ⟨rfl, hb2⟩
            have hlt3 := HB2.out.lt
            have hB3 := HB2.out.below hb2 hlt3
            have hcell := hB3.cellAt i (.slice A (nbrTo are i k).length c) (by have := Hvl.out; simp [this, hlt])
            have hfz := hB3.frozen i
            have hown2 := own_below (own_below Hown.out hb2) (Below.alloc (Below.refl _ _) (Nat.le_refl _) (.cells #[.int .i64 (k : Int)] 2))
            have hbi2 : Below w.heap.size w w2 := by (repeat' (first | (with_reducible exact Below.refl _ _) | (with_reducible assumption) | (with_reducible refine Below.alloc ?_ ?_ _) | (with_reducible refine Below.drew ?_) | (with_reducible refine below_drewN ?_ _) | (with_reducible refine Below.setCell ?_ ?_ _) | (with_reducible refine Below.trans ?_ (Below.mono (by assumption) ?_)) | (first | omega | (simp only [World.size_alloc, World.size_setCell, World.size_drew]; omega) | (simp; omega) | (simp; done))))
            have hs2 := hsame.of_below' hb2 (by omega)
            have hB4 := hB3.alloc (.cells #[.int .i64 (k : Int)] 2)
            have nbl := nbrTo_len are i k
            have i0' : (0 : Int) ≤ i := by omega
            have i1' : (i : Int) < m := by omega
            have i2' : (i : Int).toNat = i := by omega
            have Hn := nbrTo_yes hq.out
            have Hn2 := Lib.hid Hn; clear Hn
            have hne := Hid.out Hvl
            clear hB3 HB2 Hown
            go_wp2_with (first
              | (at_builtin; refine wpList_append_own _ rfl _ _ 36 rfl wo.heap.size 2 i0 (.int .i64 0) 1 8 Try.underlying36 hi hz0 hz1 hz2 rfl (by decide) _ _ _ rfl hown2 ⟨w2.heap.size, 0, none⟩ 1 1 [.int .i64 (k : Int)] rfl rfl ?c1 ?c2 ?c3 ?c4 ?c5 ?_))
            case c1 =>
              intro j u hj
              match j, hj with
              | 0, hj => simp at hj; subst hj; simp [Addr.add]
            case c2 => intro u hu; simp at hu; subst hu; rfl
            case c3 => unfold maxLen; omega
            case c4 => omega
            case c5 => have := hs2.1; simp; omega
            intro v' w3 hown' hgrow _
            have hb3 : Below wo.heap.size (w2.alloc (.cells #[.int .i64 (k : Int)] 2)) w3 := own_grown_below (Below.refl _ _) hown2 hgrow (by have := hs2.1; simp; omega)
            have hown3 := own_snocI hown' Hn2.out
            obtain ⟨A', c', rfl⟩ := own_form hown3
            have hB5 := hB4.below hb3 HBl
            have hs3 := (hs2.of_below' (Below.alloc (Below.refl _ _) (Nat.le_refl _) (.cells #[.int .i64 (k : Int)] 2)) hs2.1).of_below' hb3 (Nat.le_refl _)
            have hbi3 : Below w.heap.size w w3 := (hbi2.alloc (by have := hbi2.size; omega) _).trans (hb3.mono (by omega))
            have hcell3 := hB5.cellAt i (.slice A (nbrTo are i k).length c) (by have := Hvl.out; simp [this, hlt])
            have hfz3 := hB5.frozen i
            have H1 := Lib.hid hB5; have H2 := Lib.hid hown3
            clear hown' hgrow hB5 hown3 hown2 hB4 hcell hfz
            go_wp2
            refine ⟨⟨k + 1, _, by omega, by go_num, blkV_set H1.out, ?_, hs3.set _ _, hbi3.setCell (Nat.le_refl _) _⟩, by simp [intOf]; omega⟩
            have hl : (nbrTo are i (k + 1)).length = (nbrTo are i k).length + 1 := by rw [← Hn2.out]; simp
            rw [hl]
            exact own_set_far H2.out HBl
        · obtain rfl : k = i := by omega
          have HB2 := Lib.hid hB; clear hB
          have Hown := Lib.hid hown; clear hown
          go_wp2
          refine ⟨⟨k + 1, vs.set k (.slice A (nbrTo are k k).length c), by omega, by go_num, by have := Hvl.out; simpa using this, HB2.out, ?_, ?_, hbi⟩, by simp [intOf]; omega⟩
          · intro j hj
            by_cases e : j = k
            · subst e
              have h1 := Hvl.out
              exact ⟨A, c, by simp [List.getD, h1, hlt, nbr], own_rdO Hown.out HBl⟩
            · obtain ⟨A', c', h1, h2⟩ := Hrow.out j (by omega)
              exact ⟨A', c', by simpa [List.getD, List.getElem?_set, Ne.symm e] using h1, h2.keep hsame⟩
          · intro j h1 h2
            have := Hnil.out j (by omega) h2
            simpa [List.getD, List.getElem?_set, show ¬ k = j by omega] using this
    · obtain rfl : i = m := by omega
      go_wp2
      go_ret
      refine ⟨rfl, ?_, hbel⟩
      rcases Nat.eq_zero_or_pos i with h0 | h0
      · exact .inl (by rw [h0]; rfl)
      · refine .inr ⟨w.heap.size, 0, rfl, HB.out.lt, fun j hj => ?_⟩
        rw [nbrs_len] at hj
        obtain ⟨A, c, h1, h2⟩ := Hrow.out j hj
        have h3 := Hvl.out
        simp only [List.getD_eq_getElem?_getD, List.getElem?_eq_getElem (show j < vs.length by omega), Option.getD_some] at h1
        refine ⟨A, c, ?_, ?_⟩
        · rw [nbrs_getD _ _ _ hj]
          exact HB.out.cellAt _ _ (by simp [h1, show j < vs.length by omega])
        · rw [nbrs_getD _ _ _ hj]; exact h2.rd
end Go.Proofs.Ytkpnplldnihalaa
