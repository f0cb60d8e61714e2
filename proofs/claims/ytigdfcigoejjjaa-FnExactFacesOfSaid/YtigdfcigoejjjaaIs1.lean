/- Walks of the small functions on which impl.IsGraph rests. -/
/- slices.IndexFunc, slices.ContainsFunc and areAll, at edges and at ints, over whatever predicate. -/
/- areAll at edges and at ints, over whatever predicate; areEdges. -/
/- areEdges. -/
/- areAll at ints; isCubic. -/
/- cmp.Compare, slices.Compare at ints. -/
/- compareEdges, slices.IsSortedFunc at edges, IsGraph. -/
import Derived.Test.YtigdfcigoejjjaaGlue
import Derived.BigGuardPart
import Derived.Shelf.Abstract
import Derived.StillTailTactics
namespace Go.Proofs.Ytigdfcigoejjjaa
open Go.RowKit
set_option linter.unusedSimpArgs false
set_option linter.unusedVariables false

/-- whether lo ≤ n ≤ hi -/
def inB (n lo hi : Int) : Bool := decide (lo ≤ n) && decide (n ≤ hi)
theorem inB_true {n lo hi : Int} : inB n lo hi = true ↔ lo ≤ n ∧ n ≤ hi := by simp [inB]

set_option maxHeartbeats 400000 in
theorem within_b (n lo hi : Int) (w : World) (q : Bool) (hq : Hid (inB n lo hi = q)) :
    Calls Try.prog 70 #[.int .i64 n, .int .i64 lo, .int .i64 hi] w fun e w' => e = .returned (.bool q) ∧ w = w' := by
  by_cases h : lo ≤ n
  · have hd : decide (lo ≤ n) = true := by simpa using h
    have hq' : decide (n ≤ hi) = q := by rw [← hq.out]; simp [inB, h]
    have Hq := Lib.hid hq'; clear hq'
    go_enter Try.func70, Try.ntmps70
    go_wp2
    go_ret
    exact ⟨by rw [← Hq.out]; rfl, rfl⟩
  · have hd : decide (lo ≤ n) = false := by simpa using h
    have hq' : false = q := by rw [← hq.out]; simp [inB, h]
    have Hq := Lib.hid hq'; clear hq'
    go_enter Try.func70, Try.ntmps70
    go_wp2
    go_ret
    exact ⟨by rw [← Hq.out]; rfl, rfl⟩

set_option maxHeartbeats 400000 in
theorem lengthE_any (A : Option Addr) (n c : Nat) (w : World) :
    Calls Try.prog 61 #[.slice A n c] w fun e w' => e = .returned (.int .i64 n) ∧ w = w' := by
  go_enter Try.func61, Try.ntmps61
  go_wp2
  go_ret
  exact ⟨rfl, rfl⟩

/-- whether n is a size of a graph -/
def sizeB (n : Int) : Bool := inB n 2 20 && decide (n % 2 = 0)
theorem sizeB_true {n : Int} : sizeB n = true ↔ (2 ≤ n ∧ n ≤ 20) ∧ n % 2 = 0 := by simp [sizeB, inB]

set_option maxHeartbeats 400000 in
theorem isSize_b (n : Int) (w : World) (q : Bool) (hq : Hid (sizeB n = q)) :
    Calls Try.prog 127 #[.int .i64 n] w fun e w' => e = .returned (.bool q) ∧ w = w' := by
  obtain ⟨q1, h1⟩ : ∃ q1, Hid (inB n 2 20 = q1) := ⟨_, rfl⟩
  cases q1
  · have hq' : false = q := by rw [← hq.out, sizeB, h1.out]; rfl
    have Hq := Lib.hid hq'; clear hq'
    go_enter Try.func127, Try.ntmps127
    go_wp2_with (go_at_call 70; refine (within_b _ _ _ _ false h1).mono ?_; rintro e w1 ⟨rfl, rfl⟩)
    go_ret
    exact ⟨by rw [← Hq.out]; rfl, rfl⟩
  · have hn := inB_true.1 h1.out
    obtain ⟨ha, hb⟩ := hn
    have hq' : decide (n % 2 = 0) = q := by rw [← hq.out, sizeB, h1.out]; simp
    have Hq := Lib.hid hq'; clear hq'
    go_enter Try.func127, Try.ntmps127
    go_wp2_with (go_at_call 70; refine (within_b _ _ _ _ true h1).mono ?_; rintro e w1 ⟨rfl, rfl⟩)
    go_ret
    exact ⟨by rw [← Hq.out]; rfl, rfl⟩

/-- whether an edge joins different vertices among the first n -/
def edgeOK (n : Int) (a b : Int) : Bool := inB a 0 (n - 1) && (inB b 0 (n - 1) && decide (a ≠ b))

set_option maxHeartbeats 400000 in
theorem areEdges1_b (g : Nat) (n a b : Int) (hn : -1000 ≤ n) (hn' : n ≤ 1000) (w : World) (q : Bool) (hq : Hid (edgeOK n a b = q)) (hg : g < w.heap.size) (hc : w.cell? ⟨g, 0, none⟩ = some (.int .i64 n)) :
    Calls Try.prog 128 #[.agg #[.int .i64 a, .int .i64 b], .pointer (some ⟨g, 0, none⟩)] w fun e w' => e = .returned (.bool q) ∧ Below w.heap.size w w' := by
  obtain ⟨q1, h1⟩ : ∃ q1, Hid (inB a 0 (n - 1) = q1) := ⟨_, rfl⟩
  obtain ⟨q2, h2⟩ : ∃ q2, Hid (inB b 0 (n - 1) = q2) := ⟨_, rfl⟩
  cases q1
  · have hq' : false = q := by rw [← hq.out, edgeOK, h1.out]; rfl
    have Hq := Lib.hid hq'; clear hq'
    go_enter Try.func128, Try.ntmps128
    go_wp2_with fail
    refine (within_b _ _ _ _ false h1).mono ?_
    rintro e w1 ⟨rfl, rfl⟩
    go_wp2
    go_ret
    exact ⟨by rw [← Hq.out]; rfl, by (repeat' (first | (with_reducible exact Below.refl _ _) | (with_reducible assumption) | (with_reducible refine Below.alloc ?_ ?_ _) | (with_reducible refine Below.drew ?_) | (with_reducible refine below_drewN ?_ _) | (with_reducible refine Below.setCell ?_ ?_ _) | (with_reducible refine Below.trans ?_ (Below.mono (by assumption) ?_)) | (first | omega | (simp only [World.size_alloc, World.size_setCell, World.size_drew]; omega) | (simp; omega) | (simp; done))))⟩
  · cases q2
    · have hq' : false = q := by rw [← hq.out, edgeOK, h1.out, h2.out]; rfl
      have Hq := Lib.hid hq'; clear hq'
      go_enter Try.func128, Try.ntmps128
      go_wp2_with fail
      refine (within_b _ _ _ _ true h1).mono ?_
      rintro e w1 ⟨rfl, rfl⟩
      go_wp2_with fail
      refine (within_b _ _ _ _ false h2).mono ?_
      rintro e w1 ⟨rfl, rfl⟩
      go_wp2
      go_ret
      exact ⟨by rw [← Hq.out]; rfl, by (repeat' (first | (with_reducible exact Below.refl _ _) | (with_reducible assumption) | (with_reducible refine Below.alloc ?_ ?_ _) | (with_reducible refine Below.drew ?_) | (with_reducible refine below_drewN ?_ _) | (with_reducible refine Below.setCell ?_ ?_ _) | (with_reducible refine Below.trans ?_ (Below.mono (by assumption) ?_)) | (first | omega | (simp only [World.size_alloc, World.size_setCell, World.size_drew]; omega) | (simp; omega) | (simp; done))))⟩
    · have hq' : decide (a ≠ b) = q := by rw [← hq.out, edgeOK, h1.out, h2.out]; rfl
      have Hq := Lib.hid hq'; clear hq'
      go_enter Try.func128, Try.ntmps128
      go_wp2_with fail
      refine (within_b _ _ _ _ true h1).mono ?_
      rintro e w1 ⟨rfl, rfl⟩
      go_wp2_with fail
      refine (within_b _ _ _ _ true h2).mono ?_
      rintro e w1 ⟨rfl, rfl⟩
      go_wp2
      go_ret
      exact ⟨by rw [← Hq.out]; simp; rfl, by (repeat' (first | (with_reducible exact Below.refl _ _) | (with_reducible assumption) | (with_reducible refine Below.alloc ?_ ?_ _) | (with_reducible refine Below.drew ?_) | (with_reducible refine below_drewN ?_ _) | (with_reducible refine Below.setCell ?_ ?_ _) | (with_reducible refine Below.trans ?_ (Below.mono (by assumption) ?_)) | (first | omega | (simp only [World.size_alloc, World.size_setCell, World.size_drew]; omega) | (simp; omega) | (simp; done))))⟩

set_option maxHeartbeats 400000 in
theorem isGraph1_b (a b : Int) (w : World) :
    Calls Try.prog 105 #[.agg #[.int .i64 a, .int .i64 b]] w fun e w' => e = .returned (.bool (decide (a < b))) ∧ Below w.heap.size w w' := by
  go_enter Try.func105, Try.ntmps105
  go_wp2
  go_ret
  exact ⟨by simp, by (repeat' (first | (with_reducible exact Below.refl _ _) | (with_reducible assumption) | (with_reducible refine Below.alloc ?_ ?_ _) | (with_reducible refine Below.drew ?_) | (with_reducible refine below_drewN ?_ _) | (with_reducible refine Below.setCell ?_ ?_ _) | (with_reducible refine Below.trans ?_ (Below.mono (by assumption) ?_)) | (first | omega | (simp only [World.size_alloc, World.size_setCell, World.size_drew]; omega) | (simp; omega) | (simp; done))))⟩
set_option maxHeartbeats 400000 in
theorem isCubic1_b (a : Int) (w : World) :
    Calls Try.prog 133 #[.int .i64 a] w fun e w' => e = .returned (.bool (decide (a = 3))) ∧ w = w' := by
  go_enter Try.func133, Try.ntmps133
  go_wp2
  go_ret
  exact ⟨by simp; rfl, by (repeat' (first | (with_reducible exact Below.refl _ _) | (with_reducible assumption) | (with_reducible refine Below.alloc ?_ ?_ _) | (with_reducible refine Below.drew ?_) | (with_reducible refine below_drewN ?_ _) | (with_reducible refine Below.setCell ?_ ?_ _) | (with_reducible refine Below.trans ?_ (Below.mono (by assumption) ?_)) | (first | omega | (simp only [World.size_alloc, World.size_setCell, World.size_drew]; omega) | (simp; omega) | (simp; done))))⟩
end Go.Proofs.Ytigdfcigoejjjaa
namespace Go.Proofs.Ytigdfcigoejjjaa
open Go.RowKit
set_option linter.unusedSimpArgs false
set_option linter.unusedVariables false

/-- The place of the first element of which p holds, or -1. -/
def idxI {α : Type} (p : α → Bool) (xs : List α) : Int := if xs.findIdx p < xs.length then (xs.findIdx p : Int) else -1
theorem idxI_hit {α : Type} {p : α → Bool} {xs : List α} {k : Nat} (hk : k < xs.length) (hb : ∀ j (h : j < xs.length), j < k → p xs[j] = false) (hp : p xs[k] = true) : idxI p xs = k := by
  have : xs.findIdx p = k := by
    rw [List.findIdx_eq hk]
    exact ⟨hp, fun j hj => hb j (by omega) hj⟩
  simp [idxI, this, hk]
theorem idxI_miss {α : Type} {p : α → Bool} {xs : List α} (hb : ∀ j (h : j < xs.length), p xs[j] = false) : idxI p xs = -1 := by
  have : xs.findIdx p = xs.length := by
    rw [List.findIdx_eq_length]
    intro x hx
    obtain ⟨j, hj, rfl⟩ := List.getElem_of_mem hx
    exact hb j hj
  simp [idxI, this]
theorem idxI_any {α : Type} (p : α → Bool) (xs : List α) : decide (0 ≤ idxI p xs) = xs.any p := by
  unfold idxI
  by_cases h : xs.findIdx p < xs.length
  · rw [if_pos h]
    have := List.findIdx_lt_length.1 h
    have e : xs.any p = true := List.any_eq_true.2 this
    rw [e]; simp
  · rw [if_neg h]
    have h' : ¬ ∃ x, x ∈ xs ∧ p x = true := fun hh => h (List.findIdx_lt_length.2 hh)
    have e : xs.any p = false := by
      cases hq : xs.any p
      · rfl
      · exact absurd (List.any_eq_true.1 hq) h'
    rw [e]; simp
theorem idxI_le {α : Type} (p : α → Bool) (xs : List α) : -1 ≤ idxI p xs ∧ idxI p xs ≤ xs.length := by unfold idxI; split <;> omega

/-- A function value that, called with an edge, in whatever world that has grown out of w, says p of it and leaves what was there. -/
def PredE (g : Nat) (lb : Array Value) (p : Int × Int → Bool) (w : World) : Prop :=
  ∀ (W : World) (a b : Int), Below w.heap.size w W → Calls Try.prog g (#[.agg #[.int .i64 a, .int .i64 b]] ++ lb) W fun e w' => e = .returned (.bool (p (a, b))) ∧ Below W.heap.size W w'
/-- Likewise of an int. -/
def PredI (g : Nat) (lb : Array Value) (p : Int → Bool) (w : World) : Prop :=
  ∀ (W : World) (a : Int), Below w.heap.size w W → Calls Try.prog g (#[.int .i64 a] ++ lb) W fun e w' => e = .returned (.bool (p a)) ∧ Below W.heap.size W w'
theorem PredE.below {g : Nat} {lb : Array Value} {p : Int × Int → Bool} {w w1 : World} (h : PredE g lb p w) (hb : Below w.heap.size w w1) : PredE g lb p w1 :=
  fun W a b hW => h W a b (hb.trans (hW.mono hb.size))
theorem PredI.below {g : Nat} {lb : Array Value} {p : Int → Bool} {w w1 : World} (h : PredI g lb p w) (hb : Below w.heap.size w w1) : PredI g lb p w1 :=
  fun W a hW => h W a (hb.trans (hW.mono hb.size))
/-- The function is entered when it is called. -/
def Ent (g : Nat) : Prop := ∀ (args : Array Value) (w : World), (callFunc g args).run Try.prog w = .ok (.enter g args) w

set_option maxHeartbeats 800000 in
theorem indexE_any (A : Option Addr) (c : Nat) (es : List (Int × Int)) (g : Nat) (lb : Array Value) (p : Int × Int → Bool) (w : World) (hl : es.length ≤ 1048576) (hr : RdE w A es) (eg0 : Ent g) (hp : PredE g lb p w) :
    Calls Try.prog 138 #[.slice A es.length c, .func (.func g) #[] lb] w fun e w' => e = .returned (.int .i64 (idxI p es)) ∧ Below w.heap.size w w' := by
  have eg := eg0
  unfold Ent at eg
  clear eg0
  generalize hn : es.length = n at *
  have Hn := Lib.hid hn; clear hn
  go_enter Try.func138, Try.ntmps138
  go_wp2
  go_loopw [5, 8] (fun s5 s8 wr => ∃ k : Nat, k ≤ n ∧ s8 = .int .i64 k ∧ Hid (∀ j (h : j < es.length), j < k → p es[j] = false) ∧ Below w.heap.size w wr) (fun _ i _ => n - (intOf i).toNat)
  case atStart => exact ⟨0, Nat.zero_le _, rfl, (by intro j h hj; omega), by (repeat' (first | (with_reducible exact Below.refl _ _) | (with_reducible assumption) | (with_reducible refine Below.alloc ?_ ?_ _) | (with_reducible refine Below.drew ?_) | (with_reducible refine below_drewN ?_ _) | (with_reducible refine Below.setCell ?_ ?_ _) | (with_reducible refine Below.trans ?_ (Below.mono (by assumption) ?_)) | (first | omega | (simp only [World.size_alloc, World.size_setCell, World.size_drew]; omega) | (simp; omega) | (simp; done))))⟩
  case round =>
    obtain ⟨k, hk, rfl, hE, hbel⟩ := hrel
    have hsz := hbel.size
    by_cases hlt : k < n
    · obtain ⟨b, off, rfl, hb, hc⟩ := (hr.below hbel).pos (by have := Hn.out; omega)
      have hc0 := (hc k (by have := Hn.out; omega)).1
      have hc1 := (hc k (by have := Hn.out; omega)).2
      clear hc hr
      obtain ⟨x, y, Hx⟩ : ∃ x y, Hid (es.getD k (0, 0) = (x, y)) := ⟨_, _, rfl⟩
      rw [Hx.out] at hc0 hc1
      dsimp only at hc0 hc1
      obtain ⟨q, Hq⟩ : ∃ q, Hid (p (x, y) = q) := ⟨_, rfl⟩
      have hcall := hp wr x y hbel
      rw [Hq.out] at hcall
      clear hp
      cases q
      · go_wp2_with fail
        refine hcall.mono ?_
        rintro e w2 ⟨rfl, hb2⟩
        go_wp2_with fail
        refine ⟨⟨k + 1, by omega, by go_num, ?_, by (repeat' (first | (with_reducible exact Below.refl _ _) | (with_reducible assumption) | (with_reducible refine Below.alloc ?_ ?_ _) | (with_reducible refine Below.drew ?_) | (with_reducible refine below_drewN ?_ _) | (with_reducible refine Below.setCell ?_ ?_ _) | (with_reducible refine Below.trans ?_ (Below.mono (by assumption) ?_)) | (first | omega | (simp only [World.size_alloc, World.size_setCell, World.size_drew]; omega) | (simp; omega) | (simp; done))))⟩, by simp [intOf]; omega⟩
        intro j h hj
        by_cases e : j = k
        · subst e
          have h1 := Hx.out
          have h2 := Hq.out
          simp only [List.getD_eq_getElem?_getD, List.getElem?_eq_getElem h, Option.getD_some] at h1
          rw [h1, h2]
        · exact hE.out j h (by omega)
      · go_wp2_with fail
        refine hcall.mono ?_
        rintro e w2 ⟨rfl, hb2⟩
        go_wp2_with fail
        go_ret
        refine ⟨?_, by (repeat' (first | (with_reducible exact Below.refl _ _) | (with_reducible assumption) | (with_reducible refine Below.alloc ?_ ?_ _) | (with_reducible refine Below.drew ?_) | (with_reducible refine below_drewN ?_ _) | (with_reducible refine Below.setCell ?_ ?_ _) | (with_reducible refine Below.trans ?_ (Below.mono (by assumption) ?_)) | (first | omega | (simp only [World.size_alloc, World.size_setCell, World.size_drew]; omega) | (simp; omega) | (simp; done))))⟩
        have h : k < es.length := by have := Hn.out; omega
        have h1 := Hx.out
        simp only [List.getD_eq_getElem?_getD, List.getElem?_eq_getElem h, Option.getD_some] at h1
        rw [idxI_hit h (fun j hj hjk => hE.out j hj hjk) (by rw [h1]; exact Hq.out)]
        rfl
    · obtain rfl : k = n := by omega
      go_wp2
      go_ret
      refine ⟨?_, hbel⟩
      rw [idxI_miss (fun j hj => hE.out j hj (by have := Hn.out; omega))]
      rfl

set_option maxHeartbeats 400000 in
theorem containsE_any (A : Option Addr) (c : Nat) (es : List (Int × Int)) (g : Nat) (lb : Array Value) (p : Int × Int → Bool) (w : World) (q : Bool) (hq : Hid (es.any p = q)) (hl : es.length ≤ 1048576) (hr : RdE w A es) (eg0 : Ent g) (hp : PredE g lb p w) :
    Calls Try.prog 129 #[.slice A es.length c, .func (.func g) #[] lb] w fun e w' => e = .returned (.bool q) ∧ Below w.heap.size w w' := by
  have hi := idxI_any p es
  rw [hq.out] at hi
  have Hi := Lib.hid hi; clear hi
  have hcall := indexE_any A c es g lb p w hl hr eg0 hp
  obtain ⟨r, Hr⟩ : ∃ r, Hid (idxI p es = r) := ⟨_, rfl⟩
  rw [Hr.out] at hcall Hi
  clear hp eg0 hr
  go_enter Try.func129, Try.ntmps129
  go_wp2_with fail
  refine hcall.mono ?_
  rintro e w2 ⟨rfl, hb2⟩
  go_wp2
  go_ret
  exact ⟨by rw [← Hi.out]; rfl, hb2⟩

set_option maxHeartbeats 800000 in
theorem indexI_any (A : Option Addr) (c : Nat) (es : List Int) (g : Nat) (lb : Array Value) (p : Int → Bool) (w : World) (hl : es.length ≤ 1048576) (hr : RdI w A es) (eg0 : Ent g) (hp : PredI g lb p w) :
    Calls Try.prog 134 #[.slice A es.length c, .func (.func g) #[] lb] w fun e w' => e = .returned (.int .i64 (idxI p es)) ∧ Below w.heap.size w w' := by
  have eg := eg0
  unfold Ent at eg
  clear eg0
  generalize hn : es.length = n at *
  have Hn := Lib.hid hn; clear hn
  go_enter Try.func134, Try.ntmps134
  go_wp2
  go_loopw [5, 8] (fun s5 s8 wr => ∃ k : Nat, k ≤ n ∧ s8 = .int .i64 k ∧ Hid (∀ j (h : j < es.length), j < k → p es[j] = false) ∧ Below w.heap.size w wr) (fun _ i _ => n - (intOf i).toNat)
  case atStart => exact ⟨0, Nat.zero_le _, rfl, (by intro j h hj; omega), by (repeat' (first | (with_reducible exact Below.refl _ _) | (with_reducible assumption) | (with_reducible refine Below.alloc ?_ ?_ _) | (with_reducible refine Below.drew ?_) | (with_reducible refine below_drewN ?_ _) | (with_reducible refine Below.setCell ?_ ?_ _) | (with_reducible refine Below.trans ?_ (Below.mono (by assumption) ?_)) | (first | omega | (simp only [World.size_alloc, World.size_setCell, World.size_drew]; omega) | (simp; omega) | (simp; done))))⟩
  case round =>
    obtain ⟨k, hk, rfl, hE, hbel⟩ := hrel
    have hsz := hbel.size
    by_cases hlt : k < n
    · obtain ⟨b, off, rfl, hb, hc⟩ := (hr.below hbel).pos (by have := Hn.out; omega)
      have hc0 := (hc k (by have := Hn.out; omega))
      clear hc hr
      obtain ⟨x, Hx⟩ : ∃ x, Hid (es.getD k 0 = x) := ⟨_, rfl⟩
      rw [Hx.out] at hc0
      obtain ⟨q, Hq⟩ : ∃ q, Hid (p x = q) := ⟨_, rfl⟩
      have hcall := hp wr x hbel
      rw [Hq.out] at hcall
      clear hp
      cases q
      · go_wp2_with fail
        refine hcall.mono ?_
        rintro e w2 ⟨rfl, hb2⟩
        go_wp2_with fail
        refine ⟨⟨k + 1, by omega, by go_num, ?_, by (repeat' (first | (with_reducible exact Below.refl _ _) | (with_reducible assumption) | (with_reducible refine Below.alloc ?_ ?_ _) | (with_reducible refine Below.drew ?_) | (with_reducible refine below_drewN ?_ _) | (with_reducible refine Below.setCell ?_ ?_ _) | (with_reducible refine Below.trans ?_ (Below.mono (by assumption) ?_)) | (first | omega | (simp only [World.size_alloc, World.size_setCell, World.size_drew]; omega) | (simp; omega) | (simp; done))))⟩, by simp [intOf]; omega⟩
        intro j h hj
        by_cases e : j = k
        · subst e
          have h1 := Hx.out
          have h2 := Hq.out
          simp only [List.getD_eq_getElem?_getD, List.getElem?_eq_getElem h, Option.getD_some] at h1
          rw [h1, h2]
        · exact hE.out j h (by omega)
      · go_wp2_with fail
        refine hcall.mono ?_
        rintro e w2 ⟨rfl, hb2⟩
        go_wp2_with fail
        go_ret
        refine ⟨?_, by (repeat' (first | (with_reducible exact Below.refl _ _) | (with_reducible assumption) | (with_reducible refine Below.alloc ?_ ?_ _) | (with_reducible refine Below.drew ?_) | (with_reducible refine below_drewN ?_ _) | (with_reducible refine Below.setCell ?_ ?_ _) | (with_reducible refine Below.trans ?_ (Below.mono (by assumption) ?_)) | (first | omega | (simp only [World.size_alloc, World.size_setCell, World.size_drew]; omega) | (simp; omega) | (simp; done))))⟩
        have h : k < es.length := by have := Hn.out; omega
        have h1 := Hx.out
        simp only [List.getD_eq_getElem?_getD, List.getElem?_eq_getElem h, Option.getD_some] at h1
        rw [idxI_hit h (fun j hj hjk => hE.out j hj hjk) (by rw [h1]; exact Hq.out)]
        rfl
    · obtain rfl : k = n := by omega
      go_wp2
      go_ret
      refine ⟨?_, hbel⟩
      rw [idxI_miss (fun j hj => hE.out j hj (by have := Hn.out; omega))]
      rfl
set_option maxHeartbeats 400000 in
theorem containsI_any (A : Option Addr) (c : Nat) (es : List Int) (g : Nat) (lb : Array Value) (p : Int → Bool) (w : World) (q : Bool) (hq : Hid (es.any p = q)) (hl : es.length ≤ 1048576) (hr : RdI w A es) (eg0 : Ent g) (hp : PredI g lb p w) :
    Calls Try.prog 109 #[.slice A es.length c, .func (.func g) #[] lb] w fun e w' => e = .returned (.bool q) ∧ Below w.heap.size w w' := by
  have hi := idxI_any p es
  rw [hq.out] at hi
  have Hi := Lib.hid hi; clear hi
  have hcall := indexI_any A c es g lb p w hl hr eg0 hp
  obtain ⟨r, Hr⟩ : ∃ r, Hid (idxI p es = r) := ⟨_, rfl⟩
  rw [Hr.out] at hcall Hi
  clear hp eg0 hr
  go_enter Try.func109, Try.ntmps109
  go_wp2_with fail
  refine hcall.mono ?_
  rintro e w2 ⟨rfl, hb2⟩
  go_wp2
  go_ret
  exact ⟨by rw [← Hi.out]; rfl, hb2⟩
set_option maxHeartbeats 800000 in
theorem indexJ_any (A : Option Addr) (c : Nat) (es : List Int) (g : Nat) (lb : Array Value) (p : Int → Bool) (w : World) (hl : es.length ≤ 1048576) (hr : RdI w A es) (eg0 : Ent g) (hp : PredI g lb p w) :
    Calls Try.prog 145 #[.slice A es.length c, .func (.func g) #[] lb] w fun e w' => e = .returned (.int .i64 (idxI p es)) ∧ Below w.heap.size w w' := by
  have eg := eg0
  unfold Ent at eg
  clear eg0
  generalize hn : es.length = n at *
  have Hn := Lib.hid hn; clear hn
  go_enter Try.func145, Try.ntmps145
  go_wp2
  go_loopw [5, 8] (fun s5 s8 wr => ∃ k : Nat, k ≤ n ∧ s8 = .int .i64 k ∧ Hid (∀ j (h : j < es.length), j < k → p es[j] = false) ∧ Below w.heap.size w wr) (fun _ i _ => n - (intOf i).toNat)
  case atStart => exact ⟨0, Nat.zero_le _, rfl, (by intro j h hj; omega), by (repeat' (first | (with_reducible exact Below.refl _ _) | (with_reducible assumption) | (with_reducible refine Below.alloc ?_ ?_ _) | (with_reducible refine Below.drew ?_) | (with_reducible refine below_drewN ?_ _) | (with_reducible refine Below.setCell ?_ ?_ _) | (with_reducible refine Below.trans ?_ (Below.mono (by assumption) ?_)) | (first | omega | (simp only [World.size_alloc, World.size_setCell, World.size_drew]; omega) | (simp; omega) | (simp; done))))⟩
  case round =>
    obtain ⟨k, hk, rfl, hE, hbel⟩ := hrel
    have hsz := hbel.size
    by_cases hlt : k < n
    · obtain ⟨b, off, rfl, hb, hc⟩ := (hr.below hbel).pos (by have := Hn.out; omega)
      have hc0 := (hc k (by have := Hn.out; omega))
      clear hc hr
      obtain ⟨x, Hx⟩ : ∃ x, Hid (es.getD k 0 = x) := ⟨_, rfl⟩
      rw [Hx.out] at hc0
      obtain ⟨q, Hq⟩ : ∃ q, Hid (p x = q) := ⟨_, rfl⟩
      have hcall := hp wr x hbel
      rw [Hq.out] at hcall
      clear hp
      cases q
      · go_wp2_with fail
        refine hcall.mono ?_
        rintro e w2 ⟨rfl, hb2⟩
        go_wp2_with fail
        refine ⟨⟨k + 1, by omega, by go_num, ?_, by (repeat' (first | (with_reducible exact Below.refl _ _) | (with_reducible assumption) | (with_reducible refine Below.alloc ?_ ?_ _) | (with_reducible refine Below.drew ?_) | (with_reducible refine below_drewN ?_ _) | (with_reducible refine Below.setCell ?_ ?_ _) | (with_reducible refine Below.trans ?_ (Below.mono (by assumption) ?_)) | (first | omega | (simp only [World.size_alloc, World.size_setCell, World.size_drew]; omega) | (simp; omega) | (simp; done))))⟩, by simp [intOf]; omega⟩
        intro j h hj
        by_cases e : j = k
        · subst e
          have h1 := Hx.out
          have h2 := Hq.out
          simp only [List.getD_eq_getElem?_getD, List.getElem?_eq_getElem h, Option.getD_some] at h1
          rw [h1, h2]
        · exact hE.out j h (by omega)
      · go_wp2_with fail
        refine hcall.mono ?_
        rintro e w2 ⟨rfl, hb2⟩
        go_wp2_with fail
        go_ret
        refine ⟨?_, by (repeat' (first | (with_reducible exact Below.refl _ _) | (with_reducible assumption) | (with_reducible refine Below.alloc ?_ ?_ _) | (with_reducible refine Below.drew ?_) | (with_reducible refine below_drewN ?_ _) | (with_reducible refine Below.setCell ?_ ?_ _) | (with_reducible refine Below.trans ?_ (Below.mono (by assumption) ?_)) | (first | omega | (simp only [World.size_alloc, World.size_setCell, World.size_drew]; omega) | (simp; omega) | (simp; done))))⟩
        have h : k < es.length := by have := Hn.out; omega
        have h1 := Hx.out
        simp only [List.getD_eq_getElem?_getD, List.getElem?_eq_getElem h, Option.getD_some] at h1
        rw [idxI_hit h (fun j hj hjk => hE.out j hj hjk) (by rw [h1]; exact Hq.out)]
        rfl
    · obtain rfl : k = n := by omega
      go_wp2
      go_ret
      refine ⟨?_, hbel⟩
      rw [idxI_miss (fun j hj => hE.out j hj (by have := Hn.out; omega))]
      rfl
set_option maxHeartbeats 400000 in
theorem containsJ_any (A : Option Addr) (c : Nat) (es : List Int) (g : Nat) (lb : Array Value) (p : Int → Bool) (w : World) (q : Bool) (hq : Hid (es.any p = q)) (hl : es.length ≤ 1048576) (hr : RdI w A es) (eg0 : Ent g) (hp : PredI g lb p w) :
    Calls Try.prog 140 #[.slice A es.length c, .func (.func g) #[] lb] w fun e w' => e = .returned (.bool q) ∧ Below w.heap.size w w' := by
  have hi := idxI_any p es
  rw [hq.out] at hi
  have Hi := Lib.hid hi; clear hi
  have hcall := indexJ_any A c es g lb p w hl hr eg0 hp
  obtain ⟨r, Hr⟩ : ∃ r, Hid (idxI p es = r) := ⟨_, rfl⟩
  rw [Hr.out] at hcall Hi
  clear hp eg0 hr
  go_enter Try.func140, Try.ntmps140
  go_wp2_with fail
  refine hcall.mono ?_
  rintro e w2 ⟨rfl, hb2⟩
  go_wp2
  go_ret
  exact ⟨by rw [← Hi.out]; rfl, hb2⟩
end Go.Proofs.Ytigdfcigoejjjaa
namespace Go.Proofs.Ytigdfcigoejjjaa
open Go.RowKit
set_option linter.unusedSimpArgs false
set_option linter.unusedVariables false

theorem all_any {α : Type} (p : α → Bool) (xs : List α) : xs.all p = !xs.any fun x => !p x := by
  induction xs with
  | nil => rfl
  | cons x xs ih => simp [ih]
set_option maxHeartbeats 400000 in
/-- What stands in a box, the function value of a predicate. -/
theorem areAllE1_b (B : Nat) (g : Nat) (lb : Array Value) (p : Int × Int → Bool) (w : World) (eg0 : Ent g) (hp : PredE g lb p w) (hB : B < w.heap.size) (hc : w.cell? ⟨B, 0, none⟩ = some (.func (.func g) #[] lb)) :
    PredE 130 #[.pointer (some ⟨B, 0, none⟩)] (fun x => !p x) w := by
  intro W a b hW
  have hc' := (hW.cell (p := ⟨B, 0, none⟩) hB).trans hc
  have hB' : B < W.heap.size := by have := hW.size; omega
  have eg := eg0
  unfold Ent at eg
  obtain ⟨q, Hq⟩ : ∃ q, Hid (p (a, b) = q) := ⟨_, rfl⟩
  dsimp only
  rw [Hq.out]
  have hp' := hp.below hW
  clear hp hW hc eg0
  have hmf : ∀ (fn : Fn) (first cap : Array Value) (w : World), (Instr.makeFunc fn first cap).run Try.prog w = .ok (.func fn first cap) w := fun _ _ _ _ => rfl
  show Calls Try.prog 130 #[.agg #[.int .i64 a, .int .i64 b], .pointer (some ⟨B, 0, none⟩)] W _
  have hcall := fun W' h => hp' W' a b h
  simp only [Hq.out] at hcall
  clear hp'
  go_enter Try.func130, Try.ntmps130
  go_wp2_with fail
  refine (hcall _ (by (repeat' (first | (with_reducible exact Below.refl _ _) | (with_reducible assumption) | (with_reducible refine Below.alloc ?_ ?_ _) | (with_reducible refine Below.drew ?_) | (with_reducible refine below_drewN ?_ _) | (with_reducible refine Below.setCell ?_ ?_ _) | (with_reducible refine Below.trans ?_ (Below.mono (by assumption) ?_)) | (first | omega | (simp only [World.size_alloc, World.size_setCell, World.size_drew]; omega) | (simp; omega) | (simp; done)))))).mono ?_
  rintro e w2 ⟨rfl, hb2⟩
  go_wp2_with fail
  go_ret
  exact ⟨by simp, by (repeat' (first | (with_reducible exact Below.refl _ _) | (with_reducible assumption) | (with_reducible refine Below.alloc ?_ ?_ _) | (with_reducible refine Below.drew ?_) | (with_reducible refine below_drewN ?_ _) | (with_reducible refine Below.setCell ?_ ?_ _) | (with_reducible refine Below.trans ?_ (Below.mono (by assumption) ?_)) | (first | omega | (simp only [World.size_alloc, World.size_setCell, World.size_drew]; omega) | (simp; omega) | (simp; done))))⟩

theorem ent_areAllE1 : Ent 130 := enters_of Try.func130 (by kernel_rfl) rfl

set_option maxHeartbeats 400000 in
theorem areAllE_b (A : Option Addr) (c : Nat) (es : List (Int × Int)) (g : Nat) (lb : Array Value) (p : Int × Int → Bool) (w : World) (q : Bool) (hq : Hid (es.all p = q)) (hl : es.length ≤ 1048576) (hr : RdE w A es) (eg0 : Ent g) (hp : PredE g lb p w) :
    Calls Try.prog 104 #[.slice A es.length c, .func (.func g) #[] lb] w fun e w' => e = .returned (.bool q) ∧ Below w.heap.size w w' := by
  have hmf : ∀ (fn : Fn) (first cap : Array Value) (w : World), (Instr.makeFunc fn first cap).run Try.prog w = .ok (.func fn first cap) w := fun _ _ _ _ => rfl
  have hq' : Hid (es.any (fun x => !p x) = !q) := by show _ = _; rw [← hq.out, all_any]; simp
  have hb : Below w.heap.size w (w.alloc (.cells #[.func (.func g) #[] lb] 115)) := by (repeat' (first | (with_reducible exact Below.refl _ _) | (with_reducible assumption) | (with_reducible refine Below.alloc ?_ ?_ _) | (with_reducible refine Below.drew ?_) | (with_reducible refine below_drewN ?_ _) | (with_reducible refine Below.setCell ?_ ?_ _) | (with_reducible refine Below.trans ?_ (Below.mono (by assumption) ?_)) | (first | omega | (simp only [World.size_alloc, World.size_setCell, World.size_drew]; omega) | (simp; omega) | (simp; done))))
  have hcall := containsE_any A c es 130 #[.pointer (some ⟨w.heap.size, 0, none⟩)] (fun x => !p x) (w.alloc (.cells #[.func (.func g) #[] lb] 115)) (!q) hq' hl (hr.below hb) ent_areAllE1
    (areAllE1_b w.heap.size g lb p _ eg0 (hp.below hb) (by simp) (by simp))
  clear hq' hr hp eg0 hq
  go_enter Try.func104, Try.ntmps104
  go_wp2_with fail
  refine hcall.mono ?_
  rintro e w2 ⟨rfl, hb2⟩
  go_wp2
  go_ret
  exact ⟨by simp, by (repeat' (first | (with_reducible exact Below.refl _ _) | (with_reducible assumption) | (with_reducible refine Below.alloc ?_ ?_ _) | (with_reducible refine Below.drew ?_) | (with_reducible refine below_drewN ?_ _) | (with_reducible refine Below.setCell ?_ ?_ _) | (with_reducible refine Below.trans ?_ (Below.mono (by assumption) ?_)) | (first | omega | (simp only [World.size_alloc, World.size_setCell, World.size_drew]; omega) | (simp; omega) | (simp; done))))⟩
end Go.Proofs.Ytigdfcigoejjjaa
namespace Go.Proofs.Ytigdfcigoejjjaa
open Go.RowKit
set_option linter.unusedSimpArgs false
set_option linter.unusedVariables false

/-- whether a size and edges are as many as told, of different vertices -/
def areEdgesB (n : Int) (es : List (Int × Int)) : Bool := sizeB n && (decide ((es.length : Int) = 3 * n / 2) && es.all fun e => edgeOK n e.1 e.2)

theorem ent_areEdges1 : Ent 128 := enters_of Try.func128 (by kernel_rfl) rfl

theorem isSize_same (n : Int) (w : World) (q : Bool) (hq : Hid (sizeB n = q)) : Calls Try.prog 127 #[.int .i64 n] w fun e w' => e = .returned (.bool q) ∧ w' = w :=
  (isSize_b n w q hq).mono fun _ _ ⟨h, h'⟩ => ⟨h, h'.symm⟩
theorem lengthE_same (A : Option Addr) (n c : Nat) (w : World) : Calls Try.prog 61 #[.slice A n c] w fun e w' => e = .returned (.int .i64 n) ∧ w' = w :=
  (lengthE_any A n c w).mono fun _ _ ⟨h, h'⟩ => ⟨h, h'.symm⟩

set_option maxHeartbeats 1000000 in
theorem areEdges_b (n : Int) (A : Option Addr) (c : Nat) (es : List (Int × Int)) (w : World) (q : Bool) (hq : Hid (areEdgesB n es = q)) (hl : es.length ≤ 1048576) (hr : RdE w A es) :
    Calls Try.prog 103 #[.int .i64 n, .slice A es.length c] w fun e w' => e = .returned (.bool q) ∧ Below w.heap.size w w' := by
  have hmf : ∀ (fn : Fn) (first cap : Array Value) (w : World), (Instr.makeFunc fn first cap).run Try.prog w = .ok (.func fn first cap) w := fun _ _ _ _ => rfl
  obtain ⟨q1, h1⟩ : ∃ q1, Hid (sizeB n = q1) := ⟨_, rfl⟩
  cases q1
  · have Hq : Hid (false = q) := by show _ = _; rw [← hq.out, areEdgesB, h1.out]; rfl
    clear hq hr
    go_enter Try.func103, Try.ntmps103
    go_wp2
    go_quiet ((go_at_call 127; refine Calls.quiet_of_same (isSize_same _ _ false h1)))
    go_wp2
    go_ret
    exact ⟨by rw [← Hq.out]; rfl, by (repeat' (first | (with_reducible exact Below.refl _ _) | (with_reducible assumption) | (with_reducible refine Below.alloc ?_ ?_ _) | (with_reducible refine Below.drew ?_) | (with_reducible refine below_drewN ?_ _) | (with_reducible refine Below.setCell ?_ ?_ _) | (with_reducible refine Below.trans ?_ (Below.mono (by assumption) ?_)) | (first | omega | (simp only [World.size_alloc, World.size_setCell, World.size_drew]; omega) | (simp; omega) | (simp; done))))⟩
  · obtain ⟨⟨hn1, hn2⟩, hn3⟩ := sizeB_true.1 h1.out
    by_cases h2 : (es.length : Int) = 3 * n / 2
    · have hd : ((es.length : Int) == 3 * n / 2) = true := by simpa using h2
      have Hq : Hid ((es.all fun e => edgeOK n e.1 e.2) = q) := by show _ = _; rw [← hq.out, areEdgesB, h1.out]; simp [h2]
      have Hn3 := Lib.hid hn3
      have H2 := Lib.hid h2
      clear hq hn3 h2
      have hp : ∀ W, W.cell? ⟨w.heap.size, 0, none⟩ = some (.int .i64 n) → w.heap.size < W.heap.size → PredE 128 #[.pointer (some ⟨w.heap.size, 0, none⟩)] (fun e => edgeOK n e.1 e.2) W := by
        intro W hc hlt W' a b hW
        exact areEdges1_b w.heap.size n a b (by omega) (by omega) W' _ rfl (by have := hW.size; omega) ((hW.cell (p := ⟨w.heap.size, 0, none⟩) hlt).trans hc)
      have hcall : ∀ W, Below w.heap.size w W → w.heap.size < W.heap.size → W.cell? ⟨w.heap.size, 0, none⟩ = some (.int .i64 n) →
          Calls Try.prog 104 #[.slice A es.length c, .func (.func 128) #[] #[.pointer (some ⟨w.heap.size, 0, none⟩)]] W fun e w' => e = .returned (.bool q) ∧ Below W.heap.size W w' :=
        fun W hW hlt hc => areAllE_b A c es _ _ _ W q Hq hl (hr.below hW) ent_areEdges1 (hp W hc hlt)
      clear hp hr
      have Hcall := Lib.hid hcall; clear hcall
      go_enter Try.func103, Try.ntmps103
      go_wp2
      have hw1 : IntKind.i64.wrap (3 * n) = 3 * n := IntWalk.i64_in _ (by omega)
      have hw2 : (3 * n).tdiv 2 = 3 * n / 2 := Int.tdiv_eq_ediv_of_nonneg (by omega)
      have hw3 : IntKind.i64.wrap (3 * n / 2) = 3 * n / 2 := IntWalk.i64_in _ (by omega)
      go_region_held3 (fun w' => w'.cell? ⟨w.heap.size, 0, none⟩ = some (.int .i64 n)) (first | go_keep | (obtain ⟨hq, _⟩ := bcell ‹Below _ _ _›; (repeat' apply And.intro) <;> (rw [hq _ _ (by first | assumption | omega | (simp; done) | (simp; omega) | (simp; assumption))] <;> (first | assumption | (simp [*]; done)))))
        (first | (go_at_call 127; refine (isSize_b _ _ true h1).mono ?_; rintro e w2 ⟨rfl, rfl⟩) | (go_at_call 61; refine (lengthE_any _ _ _ _).mono ?_; rintro e w2 ⟨rfl, rfl⟩) | (go_at_call 104; refine (Hcall.out _ (by go_grown) (by simp) (by simp)).mono ?_; rintro e w2 ⟨rfl, hb2⟩))
      go_wp2
      go_ret
      exact ⟨by simp, by (repeat' (first | (with_reducible exact Below.refl _ _) | (with_reducible assumption) | (with_reducible refine Below.alloc ?_ ?_ _) | (with_reducible refine Below.drew ?_) | (with_reducible refine below_drewN ?_ _) | (with_reducible refine Below.setCell ?_ ?_ _) | (with_reducible refine Below.trans ?_ (Below.mono (by assumption) ?_)) | (first | omega | (simp only [World.size_alloc, World.size_setCell, World.size_drew]; omega) | (simp; omega) | (simp; done))))⟩
    · have hd : ((es.length : Int) == 3 * n / 2) = false := by simpa using h2
      have Hq : Hid (false = q) := by show _ = _; rw [← hq.out, areEdgesB, h1.out]; simp [h2]
      clear hq hr hn3 h2
      go_enter Try.func103, Try.ntmps103
      go_wp2
      go_quiet ((first | (go_at_call 127; refine Calls.quiet_of_same (isSize_same _ _ true h1)) | (go_at_call 61; refine Calls.quiet_of_same (lengthE_same _ _ _ _))))
      go_wp2
      go_ret
      exact ⟨by rw [← Hq.out]; rfl, by (repeat' (first | (with_reducible exact Below.refl _ _) | (with_reducible assumption) | (with_reducible refine Below.alloc ?_ ?_ _) | (with_reducible refine Below.drew ?_) | (with_reducible refine below_drewN ?_ _) | (with_reducible refine Below.setCell ?_ ?_ _) | (with_reducible refine Below.trans ?_ (Below.mono (by assumption) ?_)) | (first | omega | (simp only [World.size_alloc, World.size_setCell, World.size_drew]; omega) | (simp; omega) | (simp; done))))⟩
end Go.Proofs.Ytigdfcigoejjjaa
namespace Go.Proofs.Ytigdfcigoejjjaa
open Go.RowKit
set_option linter.unusedSimpArgs false
set_option linter.unusedVariables false

set_option maxHeartbeats 400000 in
theorem areAllJ1_b (B : Nat) (g : Nat) (lb : Array Value) (p : Int → Bool) (w : World) (eg0 : Ent g) (hp : PredI g lb p w) (hB : B < w.heap.size) (hc : w.cell? ⟨B, 0, none⟩ = some (.func (.func g) #[] lb)) :
    PredI 141 #[.pointer (some ⟨B, 0, none⟩)] (fun x => !p x) w := by
  intro W a hW
  have hc' := (hW.cell (p := ⟨B, 0, none⟩) hB).trans hc
  have hB' : B < W.heap.size := by have := hW.size; omega
  have eg := eg0
  unfold Ent at eg
  obtain ⟨q, Hq⟩ : ∃ q, Hid (p a = q) := ⟨_, rfl⟩
  dsimp only
  rw [Hq.out]
  have hp' := hp.below hW
  clear hp hW hc eg0
  show Calls Try.prog 141 #[.int .i64 a, .pointer (some ⟨B, 0, none⟩)] W _
  have hcall := fun W' h => hp' W' a h
  simp only [Hq.out] at hcall
  clear hp'
  go_enter Try.func141, Try.ntmps141
  go_wp2_with fail
  refine (hcall _ (by (repeat' (first | (with_reducible exact Below.refl _ _) | (with_reducible assumption) | (with_reducible refine Below.alloc ?_ ?_ _) | (with_reducible refine Below.drew ?_) | (with_reducible refine below_drewN ?_ _) | (with_reducible refine Below.setCell ?_ ?_ _) | (with_reducible refine Below.trans ?_ (Below.mono (by assumption) ?_)) | (first | omega | (simp only [World.size_alloc, World.size_setCell, World.size_drew]; omega) | (simp; omega) | (simp; done)))))).mono ?_
  rintro e w2 ⟨rfl, hb2⟩
  go_wp2_with fail
  go_ret
  exact ⟨by simp, by (repeat' (first | (with_reducible exact Below.refl _ _) | (with_reducible assumption) | (with_reducible refine Below.alloc ?_ ?_ _) | (with_reducible refine Below.drew ?_) | (with_reducible refine below_drewN ?_ _) | (with_reducible refine Below.setCell ?_ ?_ _) | (with_reducible refine Below.trans ?_ (Below.mono (by assumption) ?_)) | (first | omega | (simp only [World.size_alloc, World.size_setCell, World.size_drew]; omega) | (simp; omega) | (simp; done))))⟩
theorem ent_areAllJ1 : Ent 141 := enters_of Try.func141 (by kernel_rfl) rfl
set_option maxHeartbeats 400000 in
theorem areAllJ_b (A : Option Addr) (c : Nat) (es : List Int) (g : Nat) (lb : Array Value) (p : Int → Bool) (w : World) (q : Bool) (hq : Hid (es.all p = q)) (hl : es.length ≤ 1048576) (hr : RdI w A es) (eg0 : Ent g) (hp : PredI g lb p w) :
    Calls Try.prog 132 #[.slice A es.length c, .func (.func g) #[] lb] w fun e w' => e = .returned (.bool q) ∧ Below w.heap.size w w' := by
  have hmf : ∀ (fn : Fn) (first cap : Array Value) (w : World), (Instr.makeFunc fn first cap).run Try.prog w = .ok (.func fn first cap) w := fun _ _ _ _ => rfl
  have hq' : Hid (es.any (fun x => !p x) = !q) := by show _ = _; rw [← hq.out, all_any]; simp
  have hb : Below w.heap.size w (w.alloc (.cells #[.func (.func g) #[] lb] 124)) := by (repeat' (first | (with_reducible exact Below.refl _ _) | (with_reducible assumption) | (with_reducible refine Below.alloc ?_ ?_ _) | (with_reducible refine Below.drew ?_) | (with_reducible refine below_drewN ?_ _) | (with_reducible refine Below.setCell ?_ ?_ _) | (with_reducible refine Below.trans ?_ (Below.mono (by assumption) ?_)) | (first | omega | (simp only [World.size_alloc, World.size_setCell, World.size_drew]; omega) | (simp; omega) | (simp; done))))
  have hcall := containsJ_any A c es 141 #[.pointer (some ⟨w.heap.size, 0, none⟩)] (fun x => !p x) (w.alloc (.cells #[.func (.func g) #[] lb] 124)) (!q) hq' hl (hr.below hb) ent_areAllJ1
    (areAllJ1_b w.heap.size g lb p _ eg0 (hp.below hb) (by simp) (by simp))
  clear hq' hr hp eg0 hq
  go_enter Try.func132, Try.ntmps132
  go_wp2_with fail
  refine hcall.mono ?_
  rintro e w2 ⟨rfl, hb2⟩
  go_wp2
  go_ret
  exact ⟨by simp, by (repeat' (first | (with_reducible exact Below.refl _ _) | (with_reducible assumption) | (with_reducible refine Below.alloc ?_ ?_ _) | (with_reducible refine Below.drew ?_) | (with_reducible refine below_drewN ?_ _) | (with_reducible refine Below.setCell ?_ ?_ _) | (with_reducible refine Below.trans ?_ (Below.mono (by assumption) ?_)) | (first | omega | (simp only [World.size_alloc, World.size_setCell, World.size_drew]; omega) | (simp; omega) | (simp; done))))⟩
set_option maxHeartbeats 400000 in
theorem areAllI1_b (B : Nat) (g : Nat) (lb : Array Value) (p : Int → Bool) (w : World) (eg0 : Ent g) (hp : PredI g lb p w) (hB : B < w.heap.size) (hc : w.cell? ⟨B, 0, none⟩ = some (.func (.func g) #[] lb)) :
    PredI 110 #[.pointer (some ⟨B, 0, none⟩)] (fun x => !p x) w := by
  intro W a hW
  have hc' := (hW.cell (p := ⟨B, 0, none⟩) hB).trans hc
  have hB' : B < W.heap.size := by have := hW.size; omega
  have eg := eg0
  unfold Ent at eg
  obtain ⟨q, Hq⟩ : ∃ q, Hid (p a = q) := ⟨_, rfl⟩
  dsimp only
  rw [Hq.out]
  have hp' := hp.below hW
  clear hp hW hc eg0
  show Calls Try.prog 110 #[.int .i64 a, .pointer (some ⟨B, 0, none⟩)] W _
  have hcall := fun W' h => hp' W' a h
  simp only [Hq.out] at hcall
  clear hp'
  go_enter Try.func110, Try.ntmps110
  go_wp2_with fail
  refine (hcall _ (by (repeat' (first | (with_reducible exact Below.refl _ _) | (with_reducible assumption) | (with_reducible refine Below.alloc ?_ ?_ _) | (with_reducible refine Below.drew ?_) | (with_reducible refine below_drewN ?_ _) | (with_reducible refine Below.setCell ?_ ?_ _) | (with_reducible refine Below.trans ?_ (Below.mono (by assumption) ?_)) | (first | omega | (simp only [World.size_alloc, World.size_setCell, World.size_drew]; omega) | (simp; omega) | (simp; done)))))).mono ?_
  rintro e w2 ⟨rfl, hb2⟩
  go_wp2_with fail
  go_ret
  exact ⟨by simp, by (repeat' (first | (with_reducible exact Below.refl _ _) | (with_reducible assumption) | (with_reducible refine Below.alloc ?_ ?_ _) | (with_reducible refine Below.drew ?_) | (with_reducible refine below_drewN ?_ _) | (with_reducible refine Below.setCell ?_ ?_ _) | (with_reducible refine Below.trans ?_ (Below.mono (by assumption) ?_)) | (first | omega | (simp only [World.size_alloc, World.size_setCell, World.size_drew]; omega) | (simp; omega) | (simp; done))))⟩
theorem ent_areAllI1 : Ent 110 := enters_of Try.func110 (by kernel_rfl) rfl
set_option maxHeartbeats 400000 in
theorem areAllI_b (A : Option Addr) (c : Nat) (es : List Int) (g : Nat) (lb : Array Value) (p : Int → Bool) (w : World) (q : Bool) (hq : Hid (es.all p = q)) (hl : es.length ≤ 1048576) (hr : RdI w A es) (eg0 : Ent g) (hp : PredI g lb p w) :
    Calls Try.prog 68 #[.slice A es.length c, .func (.func g) #[] lb] w fun e w' => e = .returned (.bool q) ∧ Below w.heap.size w w' := by
  have hmf : ∀ (fn : Fn) (first cap : Array Value) (w : World), (Instr.makeFunc fn first cap).run Try.prog w = .ok (.func fn first cap) w := fun _ _ _ _ => rfl
  have hq' : Hid (es.any (fun x => !p x) = !q) := by show _ = _; rw [← hq.out, all_any]; simp
  have hb : Below w.heap.size w (w.alloc (.cells #[.func (.func g) #[] lb] 70)) := by (repeat' (first | (with_reducible exact Below.refl _ _) | (with_reducible assumption) | (with_reducible refine Below.alloc ?_ ?_ _) | (with_reducible refine Below.drew ?_) | (with_reducible refine below_drewN ?_ _) | (with_reducible refine Below.setCell ?_ ?_ _) | (with_reducible refine Below.trans ?_ (Below.mono (by assumption) ?_)) | (first | omega | (simp only [World.size_alloc, World.size_setCell, World.size_drew]; omega) | (simp; omega) | (simp; done))))
  have hcall := containsI_any A c es 110 #[.pointer (some ⟨w.heap.size, 0, none⟩)] (fun x => !p x) (w.alloc (.cells #[.func (.func g) #[] lb] 70)) (!q) hq' hl (hr.below hb) ent_areAllI1
    (areAllI1_b w.heap.size g lb p _ eg0 (hp.below hb) (by simp) (by simp))
  clear hq' hr hp eg0 hq
  go_enter Try.func68, Try.ntmps68
  go_wp2_with fail
  refine hcall.mono ?_
  rintro e w2 ⟨rfl, hb2⟩
  go_wp2
  go_ret
  exact ⟨by simp, by (repeat' (first | (with_reducible exact Below.refl _ _) | (with_reducible assumption) | (with_reducible refine Below.alloc ?_ ?_ _) | (with_reducible refine Below.drew ?_) | (with_reducible refine below_drewN ?_ _) | (with_reducible refine Below.setCell ?_ ?_ _) | (with_reducible refine Below.trans ?_ (Below.mono (by assumption) ?_)) | (first | omega | (simp only [World.size_alloc, World.size_setCell, World.size_drew]; omega) | (simp; omega) | (simp; done))))⟩

/-- The list with 1 added at place i. -/
def incAt (c : List Int) (i : Nat) : List Int := c.set i (c.getD i 0 + 1)
theorem incAt_len (c : List Int) (i : Nat) : (incAt c i).length = c.length := by simp [incAt]
/-- How many of the edges are at each of n vertices. -/
def degs (n : Nat) (es : List (Int × Int)) : List Int := es.foldl (fun c e => incAt (incAt c e.1.toNat) e.2.toNat) (List.replicate n 0)
theorem degs_snoc (n : Nat) (es : List (Int × Int)) (e : Int × Int) : degs n (es ++ [e]) = incAt (incAt (degs n es) e.1.toNat) e.2.toNat := by simp [degs]
theorem degs_len (n : Nat) (es : List (Int × Int)) : (degs n es).length = n := by
  unfold degs
  suffices h : ∀ c : List Int, (es.foldl (fun c e => incAt (incAt c e.1.toNat) e.2.toNat) c).length = c.length by rw [h]; simp
  induction es with
  | nil => intro c; rfl
  | cons e es ih => intro c; rw [List.foldl_cons, ih, incAt_len, incAt_len]
theorem incAt_getD (c : List Int) (i j : Nat) : (incAt c i).getD j 0 = if i = j ∧ i < c.length then c.getD i 0 + 1 else c.getD j 0 := by
  unfold incAt
  simp only [List.getD_eq_getElem?_getD, List.getElem?_set]
  by_cases h : i = j
  · subst h
    by_cases h2 : i < c.length <;> simp [h2]
  · simp [h]
theorem incAt_bd (c : List Int) (i : Nat) (m : Int) (h : ∀ j, 0 ≤ c.getD j 0 ∧ c.getD j 0 ≤ m) : ∀ j, 0 ≤ (incAt c i).getD j 0 ∧ (incAt c i).getD j 0 ≤ m + 1 := by
  intro j
  rw [incAt_getD]
  have h1 := h i; have h2 := h j
  split <;> omega
theorem degs_bd (n : Nat) (es : List (Int × Int)) : ∀ j, 0 ≤ (degs n es).getD j 0 ∧ (degs n es).getD j 0 ≤ 2 * es.length := by
  suffices h : ∀ (c : List Int) (m : Int), (∀ j, 0 ≤ c.getD j 0 ∧ c.getD j 0 ≤ m) → ∀ j, 0 ≤ (es.foldl (fun c e => incAt (incAt c e.1.toNat) e.2.toNat) c).getD j 0 ∧ (es.foldl (fun c e => incAt (incAt c e.1.toNat) e.2.toNat) c).getD j 0 ≤ m + 2 * es.length by
    intro j
    have := h (List.replicate n 0) 0 (by
      intro j
      simp only [List.getD_eq_getElem?_getD, List.getElem?_replicate]
      split <;> simp) j
    simpa [degs] using this
  induction es with
  | nil => intro c m h j; simpa using h j
  | cons e es ih =>
    intro c m h j
    have := ih _ _ (incAt_bd _ e.2.toNat _ (incAt_bd c e.1.toNat m h)) j
    simp only [List.foldl_cons, List.length_cons]
    constructor
    · exact this.1
    · have := this.2; omega

theorem blkI_set {w : World} {g t : Nat} {xs xs' : List Int} {j : Nat} {v : Int} (h : Blk w g t (cI xs).toArray) (he : xs.set j v = xs') : Blk (w.setCell ⟨g, j, none⟩ (.int .i64 v)) g t (cI xs').toArray := by
  have := h.set_ j (.int .i64 v)
  refine this.eq_ ?_
  rw [← he, cI_set]; simp
theorem blkI_cell {w : World} {g t : Nat} {xs : List Int} {j : Nat} (h : Blk w g t (cI xs).toArray) (hj : j < xs.length) : w.cell? ⟨g, j, none⟩ = some (.int .i64 (xs.getD j 0)) :=
  h.cellAt _ _ (by simpa using getD_cI xs j hj)
theorem blkI_rd {w : World} {g t : Nat} {xs : List Int} (h : Blk w g t (cI xs).toArray) : RdI w (some ⟨g, 0, none⟩) xs :=
  .inr ⟨g, 0, rfl, h.lt, fun j hj => by rw [Nat.zero_add]; exact blkI_cell h hj⟩
theorem blkE_rd {w : World} {g t : Nat} {es : List (Int × Int)} (h : Blk w g t (cE es).toArray) : RdE w (some ⟨g, 0, none⟩) es :=
  .inr ⟨g, 0, rfl, h.lt, fun j hj => by rw [Nat.zero_add]; exact blkE_cells h hj⟩

/-- Every edge joins vertices among the first n. -/
def InN (n : Nat) (es : List (Int × Int)) : Prop := ∀ j, j < es.length → ∃ a b : Nat, es.getD j (0, 0) = ((a : Int), (b : Int)) ∧ a < n ∧ b < n

theorem ent_isCubic1 : Ent 133 := enters_of Try.func133 (by kernel_rfl) rfl
theorem infoJ : (Try.prog.info? 3).map (fun i => (i.zero, i.size, i.bytes)) = some (some (.int .i64 0), 1, 8) := by kernel_rfl
theorem take_snocE (es : List (Int × Int)) (k : Nat) (h : k < es.length) : es.take (k + 1) = es.take k ++ [es.getD k (0, 0)] := by
  rw [List.take_succ_eq_append_getElem h]; simp [List.getD_eq_getElem?_getD, List.getElem?_eq_getElem h]

set_option maxHeartbeats 1000000 in
theorem isCubic_b (n : Nat) (A : Option Addr) (c : Nat) (es : List (Int × Int)) (w : World) (q : Bool) (hq : Hid ((degs n es).all (fun k => decide (k = 3)) = q)) (hn : n ≤ 1000) (hl : es.length ≤ 1048576) (hr : RdE w A es) (hin : InN n es) :
    Calls Try.prog 108 #[.int .i64 n, .slice A es.length c] w fun e w' => e = .returned (.bool q) ∧ Below w.heap.size w w' := by
  have hmk := mk_row Try.underlying133 infoJ n (by omega) (by omega)
  simp only [made_int] at hmk
  generalize hm : es.length = m at *
  have Hm := Lib.hid hm; clear hm
  have Hin := Lib.hid hin; clear hin
  go_enter Try.func108, Try.ntmps108
  go_wp2
  go_loopw [12] (fun i wr => ∃ k : Nat, k ≤ m ∧ i = .int .i64 k ∧ Blk wr w.heap.size 3 (cI (degs n (es.take k))).toArray ∧ Below w.heap.size w wr) (fun i _ => m - (intOf i).toNat)
  case atStart => exact ⟨0, Nat.zero_le _, rfl, (by simp only [List.take_zero]; exact Blk.new _ _ _), by (repeat' (first | (with_reducible exact Below.refl _ _) | (with_reducible assumption) | (with_reducible refine Below.alloc ?_ ?_ _) | (with_reducible refine Below.drew ?_) | (with_reducible refine below_drewN ?_ _) | (with_reducible refine Below.setCell ?_ ?_ _) | (with_reducible refine Below.trans ?_ (Below.mono (by assumption) ?_)) | (first | omega | (simp only [World.size_alloc, World.size_setCell, World.size_drew]; omega) | (simp; omega) | (simp; done))))⟩
  case round =>
    obtain ⟨k, hk, rfl, hB, hbel⟩ := hrel
    have hsz := hB.lt
    by_cases hlt : k < m
    · obtain ⟨b, off, rfl, hb, hc⟩ := (hr.below hbel).pos (by have := Hm.out; omega)
      have hc0 := (hc k (by have := Hm.out; omega)).1
      have hc1 := (hc k (by have := Hm.out; omega)).2
      clear hc hr
      obtain ⟨x, y, hxy, hx, hy⟩ := Hin.out k (by have := Hm.out; omega)
      have Hxy := Lib.hid hxy
      rw [hxy] at hc0 hc1
      dsimp only at hc0 hc1
      clear hxy
      have hbd := degs_bd n (es.take k)
      have hlen := degs_len n (es.take k)
      have hbx := hbd x
      have hby := incAt_bd _ x _ hbd y
      have htl : ((es.take k).length : Int) ≤ 1048576 := by have := List.length_take_le k es; omega
      have hB2 := blkI_set (xs' := incAt (degs n (es.take k)) x) (j := x) hB rfl
      have d1 := blkI_cell hB (j := x) (by omega)
      have d2 := blkI_cell hB2 (j := y) (by rw [incAt_len]; omega)
      have f1 := hB.frozen x
      have f2 := hB2.frozen y
      have HB3 := Lib.hid (blkI_set (xs' := incAt (incAt (degs n (es.take k)) x) y) (j := y) hB2 rfl)
      generalize hu : (degs n (es.take k)).getD x 0 = u at *
      have Hu := Lib.hid hu
      generalize hv : (incAt (degs n (es.take k)) x).getD y 0 = v at *
      have Hv := Lib.hid hv
      clear hbd hlen hB2 hu hv hB
      go_wp2
      refine ⟨⟨k + 1, by omega, by go_num, ?_, by (repeat' (first | (with_reducible exact Below.refl _ _) | (with_reducible assumption) | (with_reducible refine Below.alloc ?_ ?_ _) | (with_reducible refine Below.drew ?_) | (with_reducible refine below_drewN ?_ _) | (with_reducible refine Below.setCell ?_ ?_ _) | (with_reducible refine Below.trans ?_ (Below.mono (by assumption) ?_)) | (first | omega | (simp only [World.size_alloc, World.size_setCell, World.size_drew]; omega) | (simp; omega) | (simp; done))))⟩, by simp [intOf]; omega⟩
      have h3 := HB3.out
      refine Blk.eq_ (h3.alloc _) ?_
      rw [take_snocE es k (by have := Hm.out; omega), Hxy.out, degs_snoc]
      rfl
    · obtain rfl : k = m := by omega
      have hdeg : degs n (es.take k) = degs n es := by rw [List.take_of_length_le (by have := Hm.out; omega)]
      rw [hdeg] at hB
      clear hdeg
      have hcall := areAllJ_b (some ⟨w.heap.size, 0, none⟩) n (degs n es) 133 #[] (fun k => decide (k = 3)) wr q hq (by rw [degs_len]; omega) (blkI_rd hB) ent_isCubic1 (fun W a _ => (isCubic1_b a W).mono fun e w' ⟨h1, h2⟩ => ⟨h1, by subst h2; exact Below.refl _ _⟩)
      rw [degs_len] at hcall
      clear hB
      go_wp2_with fail
      refine hcall.mono ?_
      rintro e w2 ⟨rfl, hb2⟩
      go_wp2
      go_ret
      exact ⟨rfl, by (repeat' (first | (with_reducible exact Below.refl _ _) | (with_reducible assumption) | (with_reducible refine Below.alloc ?_ ?_ _) | (with_reducible refine Below.drew ?_) | (with_reducible refine below_drewN ?_ _) | (with_reducible refine Below.setCell ?_ ?_ _) | (with_reducible refine Below.trans ?_ (Below.mono (by assumption) ?_)) | (first | omega | (simp only [World.size_alloc, World.size_setCell, World.size_drew]; omega) | (simp; omega) | (simp; done))))⟩
end Go.Proofs.Ytigdfcigoejjjaa
namespace Go.Proofs.Ytigdfcigoejjjaa
open Go.RowKit
set_option linter.unusedSimpArgs false
set_option linter.unusedVariables false

/-- cmp.Compare -/
def cmpI (a b : Int) : Int := if a < b then -1 else if b < a then 1 else 0
theorem cmpI_self (a : Int) : cmpI a a = 0 := by simp [cmpI]
theorem cmpI_zero {a b : Int} (h : cmpI a b = 0) : a = b := by
  unfold cmpI at h
  split at h
  · omega
  · split at h <;> omega
theorem cmpI_bd (a b : Int) : -1 ≤ cmpI a b ∧ cmpI a b ≤ 1 := by
  unfold cmpI
  split
  · omega
  · split <;> omega

set_option maxHeartbeats 400000 in
theorem isNaN_any (a : Int) (w : World) : Calls Try.prog 144 #[.int .i64 a] w fun e w' => e = .returned (.bool false) ∧ w = w' := by
  go_enter Try.func144, Try.ntmps144
  go_wp2
  go_ret
  exact ⟨by simp, rfl⟩
set_option maxHeartbeats 400000 in
theorem cmpCompare_b (a b : Int) (w : World) (r : Int) (hr : Hid (cmpI a b = r)) : Calls Try.prog 139 #[.int .i64 a, .int .i64 b] w fun e w' => e = .returned (.int .i64 r) ∧ w = w' := by
  by_cases h1 : a < b
  · have hd : decide (a < b) = true := by simpa using h1
    have Hr : Hid (-1 = r) := by show _ = _; rw [← hr.out]; simp [cmpI, h1]
    clear hr
    go_enter Try.func139, Try.ntmps139
    go_wp2_with (go_at_call 144; refine (isNaN_any _ _).mono ?_; rintro e w1 ⟨rfl, rfl⟩)
    go_ret
    exact ⟨by rw [← Hr.out]; rfl, rfl⟩
  · by_cases h2 : b < a
    · have Hr : Hid (1 = r) := by show _ = _; rw [← hr.out]; simp [cmpI, h1, h2]
      clear hr
      go_enter Try.func139, Try.ntmps139
      go_wp2_with (go_at_call 144; refine (isNaN_any _ _).mono ?_; rintro e w1 ⟨rfl, rfl⟩)
      go_ret
      exact ⟨by rw [← Hr.out]; rfl, rfl⟩
    · have Hr : Hid (0 = r) := by show _ = _; rw [← hr.out]; simp [cmpI, h1, h2]
      clear hr
      go_enter Try.func139, Try.ntmps139
      go_wp2_with (go_at_call 144; refine (isNaN_any _ _).mono ?_; rintro e w1 ⟨rfl, rfl⟩)
      go_ret
      exact ⟨by rw [← Hr.out]; rfl, rfl⟩

/-- slices.Compare -/
def cmpL : List Int → List Int → Int
  | [], [] => 0
  | [], _ :: _ => -1
  | _ :: _, [] => 1
  | x :: xs, y :: ys => if cmpI x y = 0 then cmpL xs ys else cmpI x y
theorem cmpL_drop (xs ys : List Int) (k : Nat) (h1 : k < xs.length) (h2 : k < ys.length) : cmpL (xs.drop k) (ys.drop k) = if cmpI (xs.getD k 0) (ys.getD k 0) = 0 then cmpL (xs.drop (k + 1)) (ys.drop (k + 1)) else cmpI (xs.getD k 0) (ys.getD k 0) := by
  rw [List.drop_eq_getElem_cons h1, List.drop_eq_getElem_cons h2, cmpL]
  simp [List.getD_eq_getElem?_getD, List.getElem?_eq_getElem h1, List.getElem?_eq_getElem h2]
theorem cmpL_right (xs ys : List Int) (k : Nat) (h1 : k < xs.length) (h2 : ys.length ≤ k) : cmpL (xs.drop k) (ys.drop k) = 1 := by
  rw [List.drop_eq_getElem_cons h1, List.drop_of_length_le h2, cmpL]
theorem cmpL_left (xs ys : List Int) (k : Nat) (h1 : xs.length ≤ k) : cmpL (xs.drop k) (ys.drop k) = if k < ys.length then -1 else 0 := by
  rw [List.drop_of_length_le h1]
  by_cases h : k < ys.length
  · rw [List.drop_eq_getElem_cons h, if_pos h, cmpL]
  · rw [List.drop_of_length_le (by omega), if_neg h, cmpL]

set_option maxHeartbeats 1000000 in
theorem slicesCompare_b (A A' : Option Addr) (c c' : Nat) (n n' : Nat) (xs ys : List Int) (w : World) (r : Int) (hr : Hid (cmpL xs ys = r)) (hn : Hid (xs.length = n)) (hn' : Hid (ys.length = n')) (hl : n ≤ 1048576) (hl' : n' ≤ 1048576) (hx : RdI w A xs) (hy : RdI w A' ys) :
    Calls Try.prog 131 #[.slice A n c, .slice A' n' c'] w fun e w' => e = .returned (.int .i64 r) ∧ w = w' := by
  go_enter Try.func131, Try.ntmps131
  go_wp2
  go_loop [11] (fun i => ∃ k : Nat, k ≤ n ∧ k ≤ n' ∧ i = .int .i64 k ∧ Hid (cmpL (xs.drop k) (ys.drop k) = r)) (fun i => n - (intOf i).toNat)
  case atStart => exact ⟨0, Nat.zero_le _, Nat.zero_le _, rfl, hr⟩
  case round =>
    obtain ⟨k, hk, hk', rfl, hE⟩ := hrel
    by_cases hlt : k < n
    · obtain ⟨b, off, rfl, hb, hc⟩ := hx.pos (by have := hn.out; omega)
      have hc0 := (hc k (by have := hn.out; omega))
      clear hc
      by_cases hlt' : k < n'
      · obtain ⟨b', off', rfl, hb', hc'⟩ := hy.pos (by have := hn'.out; omega)
        have hd0 := (hc' k (by have := hn'.out; omega))
        clear hc' hx hy
        obtain ⟨q, Hq⟩ : ∃ q, Hid (cmpI (xs.getD k 0) (ys.getD k 0) = q) := ⟨_, rfl⟩
        generalize hx : xs.getD k 0 = x at *
        generalize hy : ys.getD k 0 = y at *
        have Hx := Lib.hid hx; have Hy := Lib.hid hy; clear hx hy
        by_cases hq : q = 0
        · have hq1 : (q == 0) = true := by simpa using hq
          have hq2 : (q != 0) = false := by simpa using hq
          have HQ := Lib.hid hq; clear hq
          go_wp2_with (go_at_call 139; refine (cmpCompare_b _ _ _ _ Hq).mono ?_; rintro e w1 ⟨rfl, rfl⟩)
          refine ⟨⟨k + 1, by omega, by omega, by go_num, ?_⟩, by simp [intOf]; omega⟩
          have := hE.out
          rw [cmpL_drop xs ys k (by have := hn.out; omega) (by have := hn'.out; omega), Hx.out, Hy.out, Hq.out, HQ.out, if_pos rfl] at this
          exact this
        · have hq1 : (q == 0) = false := by simpa using hq
          have hq2 : (q != 0) = true := by simpa using hq
          have HQ := Lib.hid hq; clear hq
          go_wp2_with (go_at_call 139; refine (cmpCompare_b _ _ _ _ Hq).mono ?_; rintro e w1 ⟨rfl, rfl⟩)
          go_ret
          refine ⟨?_, rfl⟩
          have := hE.out
          rw [cmpL_drop xs ys k (by have := hn.out; omega) (by have := hn'.out; omega), Hx.out, Hy.out, Hq.out, if_neg HQ.out] at this
          rw [← this]; rfl
      · go_wp2
        go_ret
        refine ⟨?_, rfl⟩
        rw [← hE.out, cmpL_right xs ys k (by have := hn.out; omega) (by have := hn'.out; omega)]; rfl
    · obtain rfl : k = n := by omega
      by_cases hlt' : k < n'
      · go_wp2
        go_ret
        refine ⟨?_, rfl⟩
        rw [← hE.out, cmpL_left xs ys k (by have := hn.out; omega), if_pos (by have := hn'.out; omega)]; rfl
      · go_wp2
        go_ret
        refine ⟨?_, rfl⟩
        rw [← hE.out, cmpL_left xs ys k (by have := hn.out; omega), if_neg (by have := hn'.out; omega)]; rfl
end Go.Proofs.Ytigdfcigoejjjaa
namespace Go.Proofs.Ytigdfcigoejjjaa
open Go.RowKit
set_option linter.unusedSimpArgs false
set_option linter.unusedVariables false

/-- The order of edges. -/
def cmpE (a b : Int × Int) : Int := if cmpI a.1 b.1 = 0 then cmpI a.2 b.2 else cmpI a.1 b.1
theorem cmpL_two (a b c d : Int) : cmpL [a, b] [c, d] = cmpE (a, b) (c, d) := by
  simp only [cmpL, cmpE]
  by_cases h : cmpI a c = 0
  · simp only [h, if_true]
    by_cases h2 : cmpI b d = 0 <;> simp [h2]
  · simp [h]
theorem cmpE_bd (a b : Int × Int) : -1 ≤ cmpE a b ∧ cmpE a b ≤ 1 := by
  unfold cmpE
  split
  · exact cmpI_bd _ _
  · exact cmpI_bd _ _

set_option maxHeartbeats 1000000 in
theorem compareEdges_b (a b c d : Int) (w : World) (r : Int) (hr : Hid (cmpE (a, b) (c, d) = r)) :
    Calls Try.prog 107 #[.agg #[.int .i64 a, .int .i64 b], .agg #[.int .i64 c, .int .i64 d]] w fun e w' => e = .returned (.int .i64 r) ∧ Below w.heap.size w w' := by
  have hr' : Hid (cmpL [a, b] [c, d] = r) := by show _ = _; rw [cmpL_two]; exact hr.out
  have hcall : ∀ W, W.cell? ⟨w.heap.size, 0, none⟩ = some (.int .i64 a) → W.cell? ⟨w.heap.size, 1, none⟩ = some (.int .i64 b) → W.cell? ⟨w.heap.size + 1, 0, none⟩ = some (.int .i64 c) → W.cell? ⟨w.heap.size + 1, 1, none⟩ = some (.int .i64 d) → w.heap.size + 1 < W.heap.size →
      Calls Try.prog 131 #[.slice (some ⟨w.heap.size, 0, none⟩) 2 2, .slice (some ⟨w.heap.size + 1, 0, none⟩) 2 2] W fun e w' => e = .returned (.int .i64 r) ∧ W = w' := by
    intro W h1 h2 h3 h4 h5
    refine slicesCompare_b _ _ 2 2 2 2 [a, b] [c, d] W r hr' rfl rfl (by omega) (by omega) (.inr ⟨_, 0, rfl, by omega, ?_⟩) (.inr ⟨_, 0, rfl, by omega, ?_⟩)
    · intro j hj
      match j, hj with
      | 0, _ => simpa using h1
      | 1, _ => simpa using h2
    · intro j hj
      match j, hj with
      | 0, _ => simpa using h3
      | 1, _ => simpa using h4
  have Hcall := Lib.hid hcall; clear hcall hr hr'
  go_enter Try.func107, Try.ntmps107
  go_wp2
  go_region_held3 (fun w' => w'.cell? ⟨w.heap.size, 0, none⟩ = some (.int .i64 a) ∧ w'.cell? ⟨w.heap.size, 1, none⟩ = some (.int .i64 b) ∧ w'.cell? ⟨w.heap.size + 1, 0, none⟩ = some (.int .i64 c) ∧ w'.cell? ⟨w.heap.size + 1, 1, none⟩ = some (.int .i64 d)) (first | go_keep | (obtain ⟨hq, _⟩ := bcell ‹Below _ _ _›; (repeat' apply And.intro) <;> (rw [hq _ _ (by first | assumption | omega | (simp; done) | (simp; omega) | (simp; assumption))] <;> (first | assumption | (simp [*]; done)))))
     (first | (go_at_call 131; refine (Hcall.out _ (by simp) (by simp) (by simp) (by simp) (by simp)).mono ?_; rintro e w2 ⟨rfl, rfl⟩))
  go_wp2
  go_ret
  exact ⟨rfl, by (repeat' (first | (with_reducible exact Below.refl _ _) | (with_reducible assumption) | (with_reducible refine Below.alloc ?_ ?_ _) | (with_reducible refine Below.drew ?_) | (with_reducible refine below_drewN ?_ _) | (with_reducible refine Below.setCell ?_ ?_ _) | (with_reducible refine Below.trans ?_ (Below.mono (by assumption) ?_)) | (first | omega | (simp only [World.size_alloc, World.size_setCell, World.size_drew]; omega) | (simp; omega) | (simp; done))))⟩

/-- whether edges are in ascending order -/
def sortedB (es : List (Int × Int)) : Bool := (List.range (es.length - 1)).all fun i => decide (0 ≤ cmpE (es.getD (i + 1) (0, 0)) (es.getD i (0, 0)))
theorem sortedB_true (es : List (Int × Int)) : sortedB es = true ↔ ∀ i, i + 1 < es.length → 0 ≤ cmpE (es.getD (i + 1) (0, 0)) (es.getD i (0, 0)) := by
  simp only [sortedB, List.all_eq_true, List.mem_range, decide_eq_true_eq]
  exact ⟨fun h i hi => h i (by omega), fun h i hi => h i (by omega)⟩
theorem sortedB_false (es : List (Int × Int)) (i : Nat) (hi : i + 1 < es.length) (h : cmpE (es.getD (i + 1) (0, 0)) (es.getD i (0, 0)) < 0) : sortedB es = false := by
  cases hq : sortedB es
  · rfl
  · have := (sortedB_true es).1 hq i hi; omega

set_option maxHeartbeats 1000000 in
theorem isSortedE_b (A : Option Addr) (c : Nat) (es : List (Int × Int)) (w : World) (q : Bool) (hq : Hid (sortedB es = q)) (hl : es.length ≤ 1048576) (hr : RdE w A es) :
    Calls Try.prog 106 #[.slice A es.length c, .func (.func 107) #[] #[]] w fun e w' => e = .returned (.bool q) ∧ Below w.heap.size w w' := by
  generalize hn : es.length = n at *
  have Hn := Lib.hid hn; clear hn
  go_enter Try.func106, Try.ntmps106
  go_wp2
  go_loopw [5] (fun i wr => ∃ k : Int, -1 ≤ k ∧ k ≤ (n : Int) - 1 ∧ i = .int .i64 k ∧ Hid (∀ j, j + 1 < n → k ≤ (j : Int) → 0 ≤ cmpE (es.getD (j + 1) (0, 0)) (es.getD j (0, 0))) ∧ Below w.heap.size w wr) (fun i _ => (intOf i + 1).toNat)
  case atStart => exact ⟨(n : Int) - 1, by omega, by omega, rfl, (by intro j h1 h2; omega), by (repeat' (first | (with_reducible exact Below.refl _ _) | (with_reducible assumption) | (with_reducible refine Below.alloc ?_ ?_ _) | (with_reducible refine Below.drew ?_) | (with_reducible refine below_drewN ?_ _) | (with_reducible refine Below.setCell ?_ ?_ _) | (with_reducible refine Below.trans ?_ (Below.mono (by assumption) ?_)) | (first | omega | (simp only [World.size_alloc, World.size_setCell, World.size_drew]; omega) | (simp; omega) | (simp; done))))⟩
  case round =>
    obtain ⟨k, hk, hk', rfl, hE, hbel⟩ := hrel
    have hsz := hbel.size
    by_cases hlt : 0 < k
    · obtain ⟨i, rfl⟩ : ∃ i : Nat, k = (i : Int) + 1 := ⟨(k - 1).toNat, by omega⟩
      obtain ⟨b, off, rfl, hb, hc⟩ := (hr.below hbel).pos (by have := Hn.out; omega)
      have hc0 := (hc (i + 1) (by have := Hn.out; omega)).1
      have hc1 := (hc (i + 1) (by have := Hn.out; omega)).2
      have hd0 := (hc i (by have := Hn.out; omega)).1
      have hd1 := (hc i (by have := Hn.out; omega)).2
      clear hc hr
      obtain ⟨x1, x2, Hx⟩ : ∃ x1 x2, Hid (es.getD (i + 1) (0, 0) = (x1, x2)) := ⟨_, _, rfl⟩
      obtain ⟨y1, y2, Hy⟩ : ∃ y1 y2, Hid (es.getD i (0, 0) = (y1, y2)) := ⟨_, _, rfl⟩
      rw [Hx.out] at hc0 hc1
      rw [Hy.out] at hd0 hd1
      dsimp only at hc0 hc1 hd0 hd1
      obtain ⟨r, Hr⟩ : ∃ r, Hid (cmpE (x1, x2) (y1, y2) = r) := ⟨_, rfl⟩
      go_wp2
      have hw1 : IntKind.i64.wrap ((i : Int) + 1 - 1) = i := by rw [show (i : Int) + 1 - 1 = i by omega]; exact IntWalk.i64_in _ (by omega)
      have hw2 : IntKind.i64.wrap (i : Int) = i := IntWalk.i64_in _ (by omega)
      have t1 : ((i : Int) + 1).toNat = i + 1 := by omega
      have b1 : (0 : Int) ≤ (i : Int) + 1 := by omega
      have b2 : (i : Int) + 1 < n := by omega
      have b3 : (i : Int) < n := by omega
      have b4 : (0 : Int) ≤ (i : Int) := by omega
      have b5 : i < n := by omega
      have b6 : i + 1 < n := by omega
      go_region_held3 (fun w' => w'.cell? ⟨b, off + (i + 1) * 2, none⟩ = some (.int .i64 x1) ∧ w'.cell? ⟨b, off + (i + 1) * 2 + 1, none⟩ = some (.int .i64 x2) ∧ w'.cell? ⟨b, off + i * 2, none⟩ = some (.int .i64 y1) ∧ w'.cell? ⟨b, off + i * 2 + 1, none⟩ = some (.int .i64 y2)) (first | go_keep | (obtain ⟨hq, _⟩ := bcell ‹Below _ _ _›; (repeat' apply And.intro) <;> (rw [hq _ _ (by first | assumption | omega | (simp; done) | (simp; omega) | (simp; assumption))] <;> (first | assumption | (simp [*]; done)))))
        (first | (go_at_call 107; refine (compareEdges_b _ _ _ _ _ r Hr).mono ?_; rintro e w2 ⟨rfl, hb2⟩))
      clear hw1 hw2 t1 b1 b2 b3 b4 b5
      by_cases hr0 : r < 0
      · go_wp2
        go_ret
        refine ⟨?_, by (repeat' (first | (with_reducible exact Below.refl _ _) | (with_reducible assumption) | (with_reducible refine Below.alloc ?_ ?_ _) | (with_reducible refine Below.drew ?_) | (with_reducible refine below_drewN ?_ _) | (with_reducible refine Below.setCell ?_ ?_ _) | (with_reducible refine Below.trans ?_ (Below.mono (by assumption) ?_)) | (first | omega | (simp only [World.size_alloc, World.size_setCell, World.size_drew]; omega) | (simp; omega) | (simp; done))))⟩
        have h1 := Hr.out
        rw [← Hx.out, ← Hy.out] at h1
        rw [← hq.out, sortedB_false es i (by have := Hn.out; omega) (by omega)]; rfl
      · go_wp2
        refine ⟨⟨i, by omega, by omega, by go_num, ?_, by (repeat' (first | (with_reducible exact Below.refl _ _) | (with_reducible assumption) | (with_reducible refine Below.alloc ?_ ?_ _) | (with_reducible refine Below.drew ?_) | (with_reducible refine below_drewN ?_ _) | (with_reducible refine Below.setCell ?_ ?_ _) | (with_reducible refine Below.trans ?_ (Below.mono (by assumption) ?_)) | (first | omega | (simp only [World.size_alloc, World.size_setCell, World.size_drew]; omega) | (simp; omega) | (simp; done))))⟩, by simp [intOf]; omega⟩
        intro j h1 h2
        by_cases e : j = i
        · subst e
          rw [Hx.out, Hy.out, Hr.out]; omega
        · exact hE.out j h1 (by omega)
    · go_wp2
      go_ret
      refine ⟨?_, by (repeat' (first | (with_reducible exact Below.refl _ _) | (with_reducible assumption) | (with_reducible refine Below.alloc ?_ ?_ _) | (with_reducible refine Below.drew ?_) | (with_reducible refine below_drewN ?_ _) | (with_reducible refine Below.setCell ?_ ?_ _) | (with_reducible refine Below.trans ?_ (Below.mono (by assumption) ?_)) | (first | omega | (simp only [World.size_alloc, World.size_setCell, World.size_drew]; omega) | (simp; omega) | (simp; done))))⟩
      have : sortedB es = true := (sortedB_true es).2 fun j hj => hE.out j (by have := Hn.out; omega) (by omega)
      rw [← hq.out, this]; rfl

/-- whether a size and edges are a graph -/
def isGraphB (n : Int) (es : List (Int × Int)) : Bool := areEdgesB n es && (es.all (fun e => decide (e.1 < e.2)) && (sortedB es && (degs n.toNat es).all (fun k => decide (k = 3))))
theorem areEdgesB_in {n : Int} {es : List (Int × Int)} (h : areEdgesB n es = true) : (2 ≤ n ∧ n ≤ 20) ∧ n % 2 = 0 ∧ (es.length : Int) = 3 * n / 2 ∧ InN n.toNat es ∧ ∀ j, j < es.length → (es.getD j (0, 0)).1 ≠ (es.getD j (0, 0)).2 := by
  simp only [areEdgesB, Bool.and_eq_true, decide_eq_true_eq] at h
  obtain ⟨h1, h2, h3⟩ := h
  obtain ⟨h4, h5⟩ := sizeB_true.1 h1
  have h6 : ∀ j (hj : j < es.length), edgeOK n (es.getD j (0, 0)).1 (es.getD j (0, 0)).2 = true := by
    intro j hj
    simp only [List.getD_eq_getElem?_getD, List.getElem?_eq_getElem hj, Option.getD_some]
    exact List.all_eq_true.1 h3 _ (List.getElem_mem hj)
  refine ⟨h4, h5, h2, fun j hj => ?_, fun j hj => ?_⟩
  · have := h6 j hj
    simp only [edgeOK, Bool.and_eq_true, inB_true] at this
    obtain ⟨⟨a1, a2⟩, ⟨b1, b2⟩, _⟩ := this
    exact ⟨(es.getD j (0, 0)).1.toNat, (es.getD j (0, 0)).2.toNat, by rw [Int.toNat_of_nonneg a1, Int.toNat_of_nonneg b1], by omega, by omega⟩
  · have := h6 j hj
    simp only [edgeOK, Bool.and_eq_true, decide_eq_true_eq] at this
    exact this.2.2

set_option maxHeartbeats 1000000 in
theorem isGraph_b (n : Int) (A : Option Addr) (c : Nat) (es : List (Int × Int)) (w : World) (q : Bool) (hq : Hid (isGraphB n es = q)) (hl : es.length ≤ 1048576) (hr : RdE w A es) :
    Calls Try.prog 66 #[.agg #[.int .i64 n, .slice A es.length c]] w fun e w' => e = .returned (.bool q) ∧ Below w.heap.size w w' := by
  obtain ⟨q1, h1⟩ : ∃ q1, Hid (areEdgesB n es = q1) := ⟨_, rfl⟩
  obtain ⟨q2, h2⟩ : ∃ q2, Hid (es.all (fun e => decide (e.1 < e.2)) = q2) := ⟨_, rfl⟩
  obtain ⟨q3, h3⟩ : ∃ q3, Hid (sortedB es = q3) := ⟨_, rfl⟩
  obtain ⟨q4, h4⟩ : ∃ q4, Hid ((degs n.toNat es).all (fun k => decide (k = 3)) = q4) := ⟨_, rfl⟩
  have hq' : Hid ((q1 && (q2 && (q3 && q4))) = q) := by show _ = _; rw [← hq.out, isGraphB, h1.out, h2.out, h3.out, h4.out]
  have c1 := fun W (hW : Below w.heap.size w W) => areEdges_b n A c es W q1 h1 hl (hr.below hW)
  have ent : Ent 105 := enters_of Try.func105 (by kernel_rfl) rfl
  have c2 := fun W (hW : Below w.heap.size w W) => areAllE_b A c es 105 #[] (fun e => decide (e.1 < e.2)) W q2 h2 hl (hr.below hW) ent (fun W a b _ => isGraph1_b a b W)
  have c3 := fun W (hW : Below w.heap.size w W) => isSortedE_b A c es W q3 h3 hl (hr.below hW)
  have c4 : q1 = true → ∀ W, Below w.heap.size w W → Calls Try.prog 108 #[.int .i64 n, .slice A es.length c] W fun e w' => e = .returned (.bool q4) ∧ Below W.heap.size W w' := by
    intro h W hW
    subst h
    obtain ⟨⟨a, b⟩, _, _, hin, _⟩ := areEdgesB_in h1.out
    obtain ⟨m, rfl⟩ : ∃ m : Nat, n = m := ⟨n.toNat, by omega⟩
    exact isCubic_b m A c es W q4 h4 (by omega) hl (hr.below hW) hin
  clear hr hq h1 h2 h3 h4 ent
  cases q1
  · have Hq : Hid (false = q) := by show _ = _; rw [← hq'.out]; rfl
    clear hq' c2 c3 c4
    go_enter Try.func66, Try.ntmps66
    go_wp2_with fail
    refine (c1 _ (by (repeat' (first | (with_reducible exact Below.refl _ _) | (with_reducible assumption) | (with_reducible refine Below.alloc ?_ ?_ _) | (with_reducible refine Below.drew ?_) | (with_reducible refine below_drewN ?_ _) | (with_reducible refine Below.setCell ?_ ?_ _) | (with_reducible refine Below.trans ?_ (Below.mono (by assumption) ?_)) | (first | omega | (simp only [World.size_alloc, World.size_setCell, World.size_drew]; omega) | (simp; omega) | (simp; done)))))).mono ?_
    rintro e w1 ⟨rfl, hb1⟩
    go_wp2
    go_ret
    exact ⟨by rw [← Hq.out]; rfl, by (repeat' (first | (with_reducible exact Below.refl _ _) | (with_reducible assumption) | (with_reducible refine Below.alloc ?_ ?_ _) | (with_reducible refine Below.drew ?_) | (with_reducible refine below_drewN ?_ _) | (with_reducible refine Below.setCell ?_ ?_ _) | (with_reducible refine Below.trans ?_ (Below.mono (by assumption) ?_)) | (first | omega | (simp only [World.size_alloc, World.size_setCell, World.size_drew]; omega) | (simp; omega) | (simp; done))))⟩

  cases q2
  · have Hq : Hid (false = q) := by show _ = _; rw [← hq'.out]; rfl
    clear hq' c3 c4
    go_enter Try.func66, Try.ntmps66
    go_wp2_with fail
    refine (c1 _ (by (repeat' (first | (with_reducible exact Below.refl _ _) | (with_reducible assumption) | (with_reducible refine Below.alloc ?_ ?_ _) | (with_reducible refine Below.drew ?_) | (with_reducible refine below_drewN ?_ _) | (with_reducible refine Below.setCell ?_ ?_ _) | (with_reducible refine Below.trans ?_ (Below.mono (by assumption) ?_)) | (first | omega | (simp only [World.size_alloc, World.size_setCell, World.size_drew]; omega) | (simp; omega) | (simp; done)))))).mono ?_
    rintro e w1 ⟨rfl, hb1⟩
    simp only [World.size_alloc, World.size_setCell, World.size_drew] at hb1; have B1 : Below w.heap.size w w1 := by (repeat' (first | (with_reducible exact Below.refl _ _) | (with_reducible assumption) | (with_reducible refine Below.alloc ?_ ?_ _) | (with_reducible refine Below.drew ?_) | (with_reducible refine below_drewN ?_ _) | (with_reducible refine Below.setCell ?_ ?_ _) | (with_reducible refine Below.trans ?_ (Below.mono (by assumption) ?_)) | (first | omega | (simp only [World.size_alloc, World.size_setCell, World.size_drew]; omega) | (simp; omega) | (simp; done))))
    have K1 : Blk w1 w.heap.size 32 #[.int .i64 n, .slice A es.length c] := (Blk.new' _ rfl).below hb1 (by omega)
    have d10 := K1.cellAt 0 _ rfl; have d11 := K1.cellAt 1 _ rfl; have z1 := hb1.size; simp only [World.size_alloc, World.size_setCell, World.size_drew] at z1
    go_wp2_with fail
    refine (c2 _ B1).mono ?_
    rintro e w2 ⟨rfl, hb2⟩
    go_wp2
    go_ret
    exact ⟨by rw [← Hq.out]; rfl, by (repeat' (first | (with_reducible exact Below.refl _ _) | (with_reducible assumption) | (with_reducible refine Below.alloc ?_ ?_ _) | (with_reducible refine Below.drew ?_) | (with_reducible refine below_drewN ?_ _) | (with_reducible refine Below.setCell ?_ ?_ _) | (with_reducible refine Below.trans ?_ (Below.mono (by assumption) ?_)) | (first | omega | (simp only [World.size_alloc, World.size_setCell, World.size_drew]; omega) | (simp; omega) | (simp; done))))⟩
  cases q3
  · have Hq : Hid (false = q) := by show _ = _; rw [← hq'.out]; rfl
    clear hq' c4
    go_enter Try.func66, Try.ntmps66
    go_wp2_with fail
    refine (c1 _ (by (repeat' (first | (with_reducible exact Below.refl _ _) | (with_reducible assumption) | (with_reducible refine Below.alloc ?_ ?_ _) | (with_reducible refine Below.drew ?_) | (with_reducible refine below_drewN ?_ _) | (with_reducible refine Below.setCell ?_ ?_ _) | (with_reducible refine Below.trans ?_ (Below.mono (by assumption) ?_)) | (first | omega | (simp only [World.size_alloc, World.size_setCell, World.size_drew]; omega) | (simp; omega) | (simp; done)))))).mono ?_
    rintro e w1 ⟨rfl, hb1⟩
    simp only [World.size_alloc, World.size_setCell, World.size_drew] at hb1; have B1 : Below w.heap.size w w1 := by (repeat' (first | (with_reducible exact Below.refl _ _) | (with_reducible assumption) | (with_reducible refine Below.alloc ?_ ?_ _) | (with_reducible refine Below.drew ?_) | (with_reducible refine below_drewN ?_ _) | (with_reducible refine Below.setCell ?_ ?_ _) | (with_reducible refine Below.trans ?_ (Below.mono (by assumption) ?_)) | (first | omega | (simp only [World.size_alloc, World.size_setCell, World.size_drew]; omega) | (simp; omega) | (simp; done))))
    have K1 : Blk w1 w.heap.size 32 #[.int .i64 n, .slice A es.length c] := (Blk.new' _ rfl).below hb1 (by omega)
    have d10 := K1.cellAt 0 _ rfl; have d11 := K1.cellAt 1 _ rfl; have z1 := hb1.size; simp only [World.size_alloc, World.size_setCell, World.size_drew] at z1
    go_wp2_with fail
    refine (c2 _ B1).mono ?_
    rintro e w2 ⟨rfl, hb2⟩
    have B2 := B1.trans (hb2.mono B1.size); have K2 := K1.below hb2 K1.lt; have d20 := K2.cellAt 0 _ rfl; have d21 := K2.cellAt 1 _ rfl; have z2 := B2.size
    go_wp2_with fail
    refine (c3 _ B2).mono ?_
    rintro e w3 ⟨rfl, hb3⟩
    go_wp2
    go_ret
    exact ⟨by rw [← Hq.out]; rfl, by (repeat' (first | (with_reducible exact Below.refl _ _) | (with_reducible assumption) | (with_reducible refine Below.alloc ?_ ?_ _) | (with_reducible refine Below.drew ?_) | (with_reducible refine below_drewN ?_ _) | (with_reducible refine Below.setCell ?_ ?_ _) | (with_reducible refine Below.trans ?_ (Below.mono (by assumption) ?_)) | (first | omega | (simp only [World.size_alloc, World.size_setCell, World.size_drew]; omega) | (simp; omega) | (simp; done))))⟩
  · have Hq : Hid (q4 = q) := by show _ = _; rw [← hq'.out]; rfl
    clear hq'
    have c5 := c4 rfl
    clear c4
    go_enter Try.func66, Try.ntmps66
    go_wp2_with fail
    refine (c1 _ (by (repeat' (first | (with_reducible exact Below.refl _ _) | (with_reducible assumption) | (with_reducible refine Below.alloc ?_ ?_ _) | (with_reducible refine Below.drew ?_) | (with_reducible refine below_drewN ?_ _) | (with_reducible refine Below.setCell ?_ ?_ _) | (with_reducible refine Below.trans ?_ (Below.mono (by assumption) ?_)) | (first | omega | (simp only [World.size_alloc, World.size_setCell, World.size_drew]; omega) | (simp; omega) | (simp; done)))))).mono ?_
    rintro e w1 ⟨rfl, hb1⟩
    simp only [World.size_alloc, World.size_setCell, World.size_drew] at hb1; have B1 : Below w.heap.size w w1 := by (repeat' (first | (with_reducible exact Below.refl _ _) | (with_reducible assumption) | (with_reducible refine Below.alloc ?_ ?_ _) | (with_reducible refine Below.drew ?_) | (with_reducible refine below_drewN ?_ _) | (with_reducible refine Below.setCell ?_ ?_ _) | (with_reducible refine Below.trans ?_ (Below.mono (by assumption) ?_)) | (first | omega | (simp only [World.size_alloc, World.size_setCell, World.size_drew]; omega) | (simp; omega) | (simp; done))))
    have K1 : Blk w1 w.heap.size 32 #[.int .i64 n, .slice A es.length c] := (Blk.new' _ rfl).below hb1 (by omega)
    have d10 := K1.cellAt 0 _ rfl; have d11 := K1.cellAt 1 _ rfl; have z1 := hb1.size; simp only [World.size_alloc, World.size_setCell, World.size_drew] at z1
    go_wp2_with fail
    refine (c2 _ B1).mono ?_
    rintro e w2 ⟨rfl, hb2⟩
    have B2 := B1.trans (hb2.mono B1.size); have K2 := K1.below hb2 K1.lt; have d20 := K2.cellAt 0 _ rfl; have d21 := K2.cellAt 1 _ rfl; have z2 := B2.size
    go_wp2_with fail
    refine (c3 _ B2).mono ?_
    rintro e w3 ⟨rfl, hb3⟩
    have B3 := B2.trans (hb3.mono B2.size); have K3 := K2.below hb3 K2.lt; have d30 := K3.cellAt 0 _ rfl; have d31 := K3.cellAt 1 _ rfl; have z3 := B3.size
    go_wp2_with fail
    refine (c5 _ B3).mono ?_
    rintro e w4 ⟨rfl, hb4⟩
    go_wp2
    go_ret
    exact ⟨by rw [← Hq.out]; rfl, by (repeat' (first | (with_reducible exact Below.refl _ _) | (with_reducible assumption) | (with_reducible refine Below.alloc ?_ ?_ _) | (with_reducible refine Below.drew ?_) | (with_reducible refine below_drewN ?_ _) | (with_reducible refine Below.setCell ?_ ?_ _) | (with_reducible refine Below.trans ?_ (Below.mono (by assumption) ?_)) | (first | omega | (simp only [World.size_alloc, World.size_setCell, World.size_drew]; omega) | (simp; omega) | (simp; done))))⟩
end Go.Proofs.Ytigdfcigoejjjaa
