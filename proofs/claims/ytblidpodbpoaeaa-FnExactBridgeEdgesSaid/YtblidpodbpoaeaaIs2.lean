/- slices.IndexFunc, slices.ContainsFunc and areAll, at edges and at ints, over whatever predicate. -/
import Derived.Test.YtblidpodbpoaeaaIs1
namespace Go.Proofs.Ytblidpodbpoaeaa
open Go.RowKit
set_option linter.unusedSimpArgs false
set_option linter.unusedVariables false

/-- The place of the first element of which p holds, or -1. -/
def idxI {α : Type} (p : α → Bool) (xs : List α) : Int := if xs.findIdx p < xs.length then (xs.findIdx p : Int) else -1
theorem idxI_hit {α : Type} {p : α → Bool} {xs : List α} {k : Nat} (hk : k < xs.length) (hb : ∀ j (h : j < xs.length), j < k → p xs[j] = false) (hp : p xs[k] = true) : idxI p xs = k := by
  have : xs.findIdx p = k := by
    rw [List.findIdx_eq hk]
    exact ⟨hp, fun j hj => hb j (by omega) hj⟩
  simp [idxI, this, hk]
theorem idxI_miss {α : Type} {p : α → Bool} {xs : List α} (hb : ∀ j (h : j < xs.length), p xs[j] = false) : idxI p xs = -1 := by
  have : xs.findIdx p = xs.length := by
    rw [List.findIdx_eq_length]
    intro x hx
    obtain ⟨j, hj, rfl⟩ := List.getElem_of_mem hx
    exact hb j hj
  simp [idxI, this]
theorem idxI_any {α : Type} (p : α → Bool) (xs : List α) : decide (0 ≤ idxI p xs) = xs.any p := by
  unfold idxI
  by_cases h : xs.findIdx p < xs.length
  · rw [if_pos h]
    have := List.findIdx_lt_length.1 h
    have e : xs.any p = true := List.any_eq_true.2 this
    rw [e]; simp
  · rw [if_neg h]
    have h' : ¬ ∃ x, x ∈ xs ∧ p x = true := fun hh => h (List.findIdx_lt_length.2 hh)
    have e : xs.any p = false := by
      cases hq : xs.any p
      · rfl
      · exact absurd (List.any_eq_true.1 hq) h'
    rw [e]; simp
theorem idxI_le {α : Type} (p : α → Bool) (xs : List α) : -1 ≤ idxI p xs ∧ idxI p xs ≤ xs.length := by unfold idxI; split <;> omega

/-- A function value that, called with an edge, in whatever world that has grown out of w, says p of it and leaves what was there. -/
def PredE (g : Nat) (lb : Array Value) (p : Int × Int → Bool) (w : World) : Prop :=
  ∀ (W : World) (a b : Int), Below w.heap.size w W → Calls Try.prog g (#[.agg #[.int .i64 a, .int .i64 b]] ++ lb) W fun e w' => e = .returned (.bool (p (a, b))) ∧ Below W.heap.size W w'
/-- Likewise of an int. -/
def PredI (g : Nat) (lb : Array Value) (p : Int → Bool) (w : World) : Prop :=
  ∀ (W : World) (a : Int), Below w.heap.size w W → Calls Try.prog g (#[.int .i64 a] ++ lb) W fun e w' => e = .returned (.bool (p a)) ∧ Below W.heap.size W w'
theorem PredE.below {g : Nat} {lb : Array Value} {p : Int × Int → Bool} {w w1 : World} (h : PredE g lb p w) (hb : Below w.heap.size w w1) : PredE g lb p w1 :=
  fun W a b hW => h W a b (hb.trans (hW.mono hb.size))
theorem PredI.below {g : Nat} {lb : Array Value} {p : Int → Bool} {w w1 : World} (h : PredI g lb p w) (hb : Below w.heap.size w w1) : PredI g lb p w1 :=
  fun W a hW => h W a (hb.trans (hW.mono hb.size))
/-- The function is entered when it is called. -/
def Ent (g : Nat) : Prop := ∀ (args : Array Value) (w : World), (callFunc g args).run Try.prog w = .ok (.enter g args) w

set_option maxHeartbeats 800000 in
theorem indexE_any (A : Option Addr) (c : Nat) (es : List (Int × Int)) (g : Nat) (lb : Array Value) (p : Int × Int → Bool) (w : World) (hl : es.length ≤ 1048576) (hr : RdE w A es) (eg0 : Ent g) (hp : PredE g lb p w) :
    Calls Try.prog 144 #[.slice A es.length c, .func (.func g) #[] lb] w fun e w' => e = .returned (.int .i64 (idxI p es)) ∧ Below w.heap.size w w' := by
  have eg := eg0
  unfold Ent at eg
  clear eg0
  generalize hn : es.length = n at *
  have Hn := Lib.hid hn; clear hn
  go_enter Try.func144, Try.ntmps144
  go_wp2
  go_loopw [5, 8] (fun s5 s8 wr => ∃ k : Nat, k ≤ n ∧ s8 = .int .i64 k ∧ Hid (∀ j (h : j < es.length), j < k → p es[j] = false) ∧ Below w.heap.size w wr) (fun _ i _ => n - (intOf i).toNat)
  case atStart => exact ⟨0, Nat.zero_le _, rfl, (by intro j h hj; omega), by (repeat' (first | (with_reducible exact Below.refl _ _) | (with_reducible assumption) | (with_reducible refine Below.alloc ?_ ?_ _) | (with_reducible refine Below.drew ?_) | (with_reducible refine below_drewN ?_ _) | (with_reducible refine Below.setCell ?_ ?_ _) | (with_reducible refine Below.trans ?_ (Below.mono (by assumption) ?_)) | (first | omega | (simp only [World.size_alloc, World.size_setCell, World.size_drew]; omega) | (simp; omega) | (simp; done))))⟩
  case round =>
    obtain ⟨k, hk, rfl, hE, hbel⟩ := hrel
    have hsz := hbel.size
    by_cases hlt : k < n
    · obtain ⟨b, off, rfl, hb, hc⟩ := (hr.below hbel).pos (by have := Hn.out; omega)
      have hc0 := (hc k (by have := Hn.out; omega)).1
      have hc1 := (hc k (by have := Hn.out; omega)).2
      clear hc hr
      obtain ⟨x, y, Hx⟩ : ∃ x y, Hid (es.getD k (0, 0) = (x, y)) := ⟨_, _, rfl⟩
      rw [Hx.out] at hc0 hc1
      dsimp only at hc0 hc1
      obtain ⟨q, Hq⟩ : ∃ q, Hid (p (x, y) = q) := ⟨_, rfl⟩
      have hcall := hp wr x y hbel
      rw [Hq.out] at hcall
      clear hp
      cases q
      · go_wp2_with fail
        refine hcall.mono ?_
        rintro e w2 ⟨rfl, hb2⟩
        go_wp2_with fail
        refine ⟨⟨k + 1, by omega, by go_num, ?_, by (repeat' (first | (with_reducible exact Below.refl _ _) | (with_reducible assumption) | (with_reducible refine Below.alloc ?_ ?_ _) | (with_reducible refine Below.drew ?_) | (with_reducible refine below_drewN ?_ _) | (with_reducible refine Below.setCell ?_ ?_ _) | (with_reducible refine Below.trans ?_ (Below.mono (by assumption) ?_)) | (first | omega | (simp only [World.size_alloc, World.size_setCell, World.size_drew]; omega) | (simp; omega) | (simp; done))))⟩, by simp [intOf]; omega⟩
        intro j h hj
        by_cases e : j = k
        · subst e
          have h1 := Hx.out
          have h2 := Hq.out
          simp only [List.getD_eq_getElem?_getD, List.getElem?_eq_getElem h, Option.getD_some] at h1
          rw [h1, h2]
        · exact hE.out j h (by omega)
      · go_wp2_with fail
        refine hcall.mono ?_
        rintro e w2 ⟨rfl, hb2⟩
        go_wp2_with fail
        go_ret
        refine ⟨?_, by (repeat' (first | (with_reducible exact Below.refl _ _) | (with_reducible assumption) | (with_reducible refine Below.alloc ?_ ?_ _) | (with_reducible refine Below.drew ?_) | (with_reducible refine below_drewN ?_ _) | (with_reducible refine Below.setCell ?_ ?_ _) | (with_reducible refine Below.trans ?_ (Below.mono (by assumption) ?_)) | (first | omega | (simp only [World.size_alloc, World.size_setCell, World.size_drew]; omega) | (simp; omega) | (simp; done))))⟩
        have h : k < es.length := by have := Hn.out; omega
        have h1 := Hx.out
        simp only [List.getD_eq_getElem?_getD, List.getElem?_eq_getElem h, Option.getD_some] at h1
        rw [idxI_hit h (fun j hj hjk => hE.out j hj hjk) (by rw [h1]; exact Hq.out)]
        rfl
    · obtain rfl : k = n := by omega
      go_wp2
      go_ret
      refine ⟨?_, hbel⟩
      rw [idxI_miss (fun j hj => hE.out j hj (by have := Hn.out; omega))]
      rfl

set_option maxHeartbeats 400000 in
theorem containsE_any (A : Option Addr) (c : Nat) (es : List (Int × Int)) (g : Nat) (lb : Array Value) (p : Int × Int → Bool) (w : World) (q : Bool) (hq : Hid (es.any p = q)) (hl : es.length ≤ 1048576) (hr : RdE w A es) (eg0 : Ent g) (hp : PredE g lb p w) :
    Calls Try.prog 130 #[.slice A es.length c, .func (.func g) #[] lb] w fun e w' => e = .returned (.bool q) ∧ Below w.heap.size w w' := by
  have hi := idxI_any p es
  rw [hq.out] at hi
  have Hi := Lib.hid hi; clear hi
  have hcall := indexE_any A c es g lb p w hl hr eg0 hp
  obtain ⟨r, Hr⟩ : ∃ r, Hid (idxI p es = r) := ⟨_, rfl⟩
  rw [Hr.out] at hcall Hi
  clear hp eg0 hr
  go_enter Try.func130, Try.ntmps130
  go_wp2_with fail
  refine hcall.mono ?_
  rintro e w2 ⟨rfl, hb2⟩
  go_wp2
  go_ret
  exact ⟨by rw [← Hi.out]; rfl, hb2⟩

set_option maxHeartbeats 800000 in
theorem indexI_any (A : Option Addr) (c : Nat) (es : List Int) (g : Nat) (lb : Array Value) (p : Int → Bool) (w : World) (hl : es.length ≤ 1048576) (hr : RdI w A es) (eg0 : Ent g) (hp : PredI g lb p w) :
    Calls Try.prog 134 #[.slice A es.length c, .func (.func g) #[] lb] w fun e w' => e = .returned (.int .i64 (idxI p es)) ∧ Below w.heap.size w w' := by
  have eg := eg0
  unfold Ent at eg
  clear eg0
  generalize hn : es.length = n at *
  have Hn := Lib.hid hn; clear hn
  go_enter Try.func134, Try.ntmps134
  go_wp2
  go_loopw [5, 8] (fun s5 s8 wr => ∃ k : Nat, k ≤ n ∧ s8 = .int .i64 k ∧ Hid (∀ j (h : j < es.length), j < k → p es[j] = false) ∧ Below w.heap.size w wr) (fun _ i _ => n - (intOf i).toNat)
  case atStart => exact ⟨0, Nat.zero_le _, rfl, (by intro j h hj; omega), by (repeat' (first | (with_reducible exact Below.refl _ _) | (with_reducible assumption) | (with_reducible refine Below.alloc ?_ ?_ _) | (with_reducible refine Below.drew ?_) | (with_reducible refine below_drewN ?_ _) | (with_reducible refine Below.setCell ?_ ?_ _) | (with_reducible refine Below.trans ?_ (Below.mono (by assumption) ?_)) | (first | omega | (simp only [World.size_alloc, World.size_setCell, World.size_drew]; omega) | (simp; omega) | (simp; done))))⟩
  case round =>
    obtain ⟨k, hk, rfl, hE, hbel⟩ := hrel
    have hsz := hbel.size
    by_cases hlt : k < n
    · obtain ⟨b, off, rfl, hb, hc⟩ := (hr.below hbel).pos (by have := Hn.out; omega)
      have hc0 := (hc k (by have := Hn.out; omega))
      clear hc hr
      obtain ⟨x, Hx⟩ : ∃ x, Hid (es.getD k 0 = x) := ⟨_, rfl⟩
      rw [Hx.out] at hc0
      obtain ⟨q, Hq⟩ : ∃ q, Hid (p x = q) := ⟨_, rfl⟩
      have hcall := hp wr x hbel
      rw [Hq.out] at hcall
      clear hp
      cases q
      · go_wp2_with fail
        refine hcall.mono ?_
        rintro e w2 ⟨rfl, hb2⟩
        go_wp2_with fail
        refine ⟨⟨k + 1, by omega, by go_num, ?_, by (repeat' (first | (with_reducible exact Below.refl _ _) | (with_reducible assumption) | (with_reducible refine Below.alloc ?_ ?_ _) | (with_reducible refine Below.drew ?_) | (with_reducible refine below_drewN ?_ _) | (with_reducible refine Below.setCell ?_ ?_ _) | (with_reducible refine Below.trans ?_ (Below.mono (by assumption) ?_)) | (first | omega | (simp only [World.size_alloc, World.size_setCell, World.size_drew]; omega) | (simp; omega) | (simp; done))))⟩, by simp [intOf]; omega⟩
        intro j h hj
        by_cases e : j = k
        · subst e
          have h1 := Hx.out
          have h2 := Hq.out
          simp only [List.getD_eq_getElem?_getD, List.getElem?_eq_getElem h, Option.getD_some] at h1
          rw [h1, h2]
        · exact hE.out j h (by omega)
      · go_wp2_with fail
        refine hcall.mono ?_
        rintro e w2 ⟨rfl, hb2⟩
        go_wp2_with fail
        go_ret
        refine ⟨?_, by (repeat' (first | (with_reducible exact Below.refl _ _) | (with_reducible assumption) | (with_reducible refine Below.alloc ?_ ?_ _) | (with_reducible refine Below.drew ?_) | (with_reducible refine below_drewN ?_ _) | (with_reducible refine Below.setCell ?_ ?_ _) | (with_reducible refine Below.trans ?_ (Below.mono (by assumption) ?_)) | (first | omega | (simp only [World.size_alloc, World.size_setCell, World.size_drew]; omega) | (simp; omega) | (simp; done))))⟩
        have h : k < es.length := by have := Hn.out; omega
        have h1 := Hx.out
        simp only [List.getD_eq_getElem?_getD, List.getElem?_eq_getElem h, Option.getD_some] at h1
        rw [idxI_hit h (fun j hj hjk => hE.out j hj hjk) (by rw [h1]; exact Hq.out)]
        rfl
    · obtain rfl : k = n := by omega
      go_wp2
      go_ret
      refine ⟨?_, hbel⟩
      rw [idxI_miss (fun j hj => hE.out j hj (by have := Hn.out; omega))]
      rfl
set_option maxHeartbeats 400000 in
theorem containsI_any (A : Option Addr) (c : Nat) (es : List Int) (g : Nat) (lb : Array Value) (p : Int → Bool) (w : World) (q : Bool) (hq : Hid (es.any p = q)) (hl : es.length ≤ 1048576) (hr : RdI w A es) (eg0 : Ent g) (hp : PredI g lb p w) :
    Calls Try.prog 107 #[.slice A es.length c, .func (.func g) #[] lb] w fun e w' => e = .returned (.bool q) ∧ Below w.heap.size w w' := by
  have hi := idxI_any p es
  rw [hq.out] at hi
  have Hi := Lib.hid hi; clear hi
  have hcall := indexI_any A c es g lb p w hl hr eg0 hp
  obtain ⟨r, Hr⟩ : ∃ r, Hid (idxI p es = r) := ⟨_, rfl⟩
  rw [Hr.out] at hcall Hi
  clear hp eg0 hr
  go_enter Try.func107, Try.ntmps107
  go_wp2_with fail
  refine hcall.mono ?_
  rintro e w2 ⟨rfl, hb2⟩
  go_wp2
  go_ret
  exact ⟨by rw [← Hi.out]; rfl, hb2⟩
set_option maxHeartbeats 800000 in
theorem indexJ_any (A : Option Addr) (c : Nat) (es : List Int) (g : Nat) (lb : Array Value) (p : Int → Bool) (w : World) (hl : es.length ≤ 1048576) (hr : RdI w A es) (eg0 : Ent g) (hp : PredI g lb p w) :
    Calls Try.prog 149 #[.slice A es.length c, .func (.func g) #[] lb] w fun e w' => e = .returned (.int .i64 (idxI p es)) ∧ Below w.heap.size w w' := by
  have eg := eg0
  unfold Ent at eg
  clear eg0
  generalize hn : es.length = n at *
  have Hn := Lib.hid hn; clear hn
  go_enter Try.func149, Try.ntmps149
  go_wp2
  go_loopw [5, 8] (fun s5 s8 wr => ∃ k : Nat, k ≤ n ∧ s8 = .int .i64 k ∧ Hid (∀ j (h : j < es.length), j < k → p es[j] = false) ∧ Below w.heap.size w wr) (fun _ i _ => n - (intOf i).toNat)
  case atStart => exact ⟨0, Nat.zero_le _, rfl, (by intro j h hj; omega), by (repeat' (first | (with_reducible exact Below.refl _ _) | (with_reducible assumption) | (with_reducible refine Below.alloc ?_ ?_ _) | (with_reducible refine Below.drew ?_) | (with_reducible refine below_drewN ?_ _) | (with_reducible refine Below.setCell ?_ ?_ _) | (with_reducible refine Below.trans ?_ (Below.mono (by assumption) ?_)) | (first | omega | (simp only [World.size_alloc, World.size_setCell, World.size_drew]; omega) | (simp; omega) | (simp; done))))⟩
  case round =>
    obtain ⟨k, hk, rfl, hE, hbel⟩ := hrel
    have hsz := hbel.size
    by_cases hlt : k < n
    · obtain ⟨b, off, rfl, hb, hc⟩ := (hr.below hbel).pos (by have := Hn.out; omega)
      have hc0 := (hc k (by have := Hn.out; omega))
      clear hc hr
      obtain ⟨x, Hx⟩ : ∃ x, Hid (es.getD k 0 = x) := ⟨_, rfl⟩
      rw [Hx.out] at hc0
      obtain ⟨q, Hq⟩ : ∃ q, Hid (p x = q) := ⟨_, rfl⟩
      have hcall := hp wr x hbel
      rw [Hq.out] at hcall
      clear hp
      cases q
      · go_wp2_with fail
        refine hcall.mono ?_
        rintro e w2 ⟨rfl, hb2⟩
        go_wp2_with fail
        refine ⟨⟨k + 1, by omega, by go_num, ?_, by (repeat' (first | (with_reducible exact Below.refl _ _) | (with_reducible assumption) | (with_reducible refine Below.alloc ?_ ?_ _) | (with_reducible refine Below.drew ?_) | (with_reducible refine below_drewN ?_ _) | (with_reducible refine Below.setCell ?_ ?_ _) | (with_reducible refine Below.trans ?_ (Below.mono (by assumption) ?_)) | (first | omega | (simp only [World.size_alloc, World.size_setCell, World.size_drew]; omega) | (simp; omega) | (simp; done))))⟩, by simp [intOf]; omega⟩
        intro j h hj
        by_cases e : j = k
        · subst e
          have h1 := Hx.out
          have h2 := Hq.out
          simp only [List.getD_eq_getElem?_getD, List.getElem?_eq_getElem h, Option.getD_some] at h1
          rw [h1, h2]
        · exact hE.out j h (by omega)
      · go_wp2_with fail
        refine hcall.mono ?_
        rintro e w2 ⟨rfl, hb2⟩
        go_wp2_with fail
        go_ret
        refine ⟨?_, by (repeat' (first | (with_reducible exact Below.refl _ _) | (with_reducible assumption) | (with_reducible refine Below.alloc ?_ ?_ _) | (with_reducible refine Below.drew ?_) | (with_reducible refine below_drewN ?_ _) | (with_reducible refine Below.setCell ?_ ?_ _) | (with_reducible refine Below.trans ?_ (Below.mono (by assumption) ?_)) | (first | omega | (simp only [World.size_alloc, World.size_setCell, World.size_drew]; omega) | (simp; omega) | (simp; done))))⟩
        have h : k < es.length := by have := Hn.out; omega
        have h1 := Hx.out
        simp only [List.getD_eq_getElem?_getD, List.getElem?_eq_getElem h, Option.getD_some] at h1
        rw [idxI_hit h (fun j hj hjk => hE.out j hj hjk) (by rw [h1]; exact Hq.out)]
        rfl
    · obtain rfl : k = n := by omega
      go_wp2
      go_ret
      refine ⟨?_, hbel⟩
      rw [idxI_miss (fun j hj => hE.out j hj (by have := Hn.out; omega))]
      rfl
set_option maxHeartbeats 400000 in
theorem containsJ_any (A : Option Addr) (c : Nat) (es : List Int) (g : Nat) (lb : Array Value) (p : Int → Bool) (w : World) (q : Bool) (hq : Hid (es.any p = q)) (hl : es.length ≤ 1048576) (hr : RdI w A es) (eg0 : Ent g) (hp : PredI g lb p w) :
    Calls Try.prog 145 #[.slice A es.length c, .func (.func g) #[] lb] w fun e w' => e = .returned (.bool q) ∧ Below w.heap.size w w' := by
  have hi := idxI_any p es
  rw [hq.out] at hi
  have Hi := Lib.hid hi; clear hi
  have hcall := indexJ_any A c es g lb p w hl hr eg0 hp
  obtain ⟨r, Hr⟩ : ∃ r, Hid (idxI p es = r) := ⟨_, rfl⟩
  rw [Hr.out] at hcall Hi
  clear hp eg0 hr
  go_enter Try.func145, Try.ntmps145
  go_wp2_with fail
  refine hcall.mono ?_
  rintro e w2 ⟨rfl, hb2⟩
  go_wp2
  go_ret
  exact ⟨by rw [← Hi.out]; rfl, hb2⟩
end Go.Proofs.Ytblidpodbpoaeaa
