/- ContainsFunc over a list on whose elements alone the test is defined; isClose. -/
import Derived.Test.YtigdfcigoejjjaaNe2
namespace Go.Proofs.Ytigdfcigoejjjaa
open Go.RowKit
set_option linter.unusedSimpArgs false
set_option linter.unusedVariables false

/-- A function value that, called with an element of xs, in whatever world that has grown out of w, says p of it and leaves what was there. -/
def PredX (g : Nat) (lb : Array Value) (p : Int → Bool) (xs : List Int) (w : World) : Prop :=
  ∀ (W : World) (a : Int), a ∈ xs → Below w.heap.size w W → Calls Try.prog g (#[.int .i64 a] ++ lb) W fun e w' => e = .returned (.bool (p a)) ∧ Below W.heap.size W w'
theorem PredX.below {g : Nat} {lb : Array Value} {p : Int → Bool} {xs : List Int} {w w1 : World} (h : PredX g lb p xs w) (hb : Below w.heap.size w w1) : PredX g lb p xs w1 :=
  fun W a ha hW => h W a ha (hb.trans (hW.mono hb.size))

set_option maxHeartbeats 800000 in
theorem indexX_any (A : Option Addr) (c : Nat) (es : List Int) (n : Nat) (g : Nat) (lb : Array Value) (p : Int → Bool) (w : World) (Hn : Hid (es.length = n)) (hl : n ≤ 1048576) (hr : RdI w A es) (eg0 : Ent g) (hp : PredX g lb p es w) :
    Calls Try.prog 134 #[.slice A n c, .func (.func g) #[] lb] w fun e w' => e = .returned (.int .i64 (idxI p es)) ∧ Below w.heap.size w w' := by
  have eg := eg0
  unfold Ent at eg
  clear eg0
  go_enter Try.func134, Try.ntmps134
  go_wp2
  go_loopw [5, 8] (fun s5 s8 wr => ∃ k : Nat, k ≤ n ∧ s8 = .int .i64 k ∧ Hid (∀ j (h : j < es.length), j < k → p es[j] = false) ∧ Below w.heap.size w wr) (fun _ i _ => n - (intOf i).toNat)
  case atStart => exact ⟨0, Nat.zero_le _, rfl, (by intro j h hj; omega), by (repeat' (first | (with_reducible exact Below.refl _ _) | (with_reducible assumption) | (with_reducible refine Below.alloc ?_ ?_ _) | (with_reducible refine Below.drew ?_) | (with_reducible refine below_drewN ?_ _) | (with_reducible refine Below.setCell ?_ ?_ _) | (with_reducible refine Below.trans ?_ (Below.mono (by assumption) ?_)) | (first | omega | (simp only [World.size_alloc, World.size_setCell, World.size_drew]; omega) | (simp; omega) | (simp; done))))⟩
  case round =>
    obtain ⟨k, hk, rfl, hE, hbel⟩ := hrel
    have hsz := hbel.size
    by_cases hlt : k < n
    · obtain ⟨b, off, rfl, hb, hc⟩ := (hr.below hbel).pos (by have := Hn.out; omega)
      have hc0 := (hc k (by have := Hn.out; omega))
      clear hc hr
      obtain ⟨x, Hx⟩ : ∃ x, Hid (es.getD k 0 = x) := ⟨_, rfl⟩
      rw [Hx.out] at hc0
      obtain ⟨q, Hq⟩ : ∃ q, Hid (p x = q) := ⟨_, rfl⟩
      have hmem : x ∈ es := by
        have h : k < es.length := by have := Hn.out; omega
        have h1 := Hx.out
        simp only [List.getD_eq_getElem?_getD, List.getElem?_eq_getElem h, Option.getD_some] at h1
        rw [← h1]; exact List.getElem_mem _
      have hcall := hp wr x hmem hbel
      rw [Hq.out] at hcall
      clear hp hmem
      cases q
      · go_wp2_with fail
        refine hcall.mono ?_
        rintro e w2 ⟨rfl, hb2⟩
        go_wp2_with fail
        refine ⟨⟨k + 1, by omega, by go_num, ?_, by (repeat' (first | (with_reducible exact Below.refl _ _) | (with_reducible assumption) | (with_reducible refine Below.alloc ?_ ?_ _) | (with_reducible refine Below.drew ?_) | (with_reducible refine below_drewN ?_ _) | (with_reducible refine Below.setCell ?_ ?_ _) | (with_reducible refine Below.trans ?_ (Below.mono (by assumption) ?_)) | (first | omega | (simp only [World.size_alloc, World.size_setCell, World.size_drew]; omega) | (simp; omega) | (simp; done))))⟩, by simp [intOf]; omega⟩
        intro j h hj
        by_cases e : j = k
        · subst e
          have h1 := Hx.out
          have h2 := Hq.out
          simp only [List.getD_eq_getElem?_getD, List.getElem?_eq_getElem h, Option.getD_some] at h1
          rw [h1, h2]
        · exact hE.out j h (by omega)
      · go_wp2_with fail
        refine hcall.mono ?_
        rintro e w2 ⟨rfl, hb2⟩
        go_wp2_with fail
        go_ret
        refine ⟨?_, by (repeat' (first | (with_reducible exact Below.refl _ _) | (with_reducible assumption) | (with_reducible refine Below.alloc ?_ ?_ _) | (with_reducible refine Below.drew ?_) | (with_reducible refine below_drewN ?_ _) | (with_reducible refine Below.setCell ?_ ?_ _) | (with_reducible refine Below.trans ?_ (Below.mono (by assumption) ?_)) | (first | omega | (simp only [World.size_alloc, World.size_setCell, World.size_drew]; omega) | (simp; omega) | (simp; done))))⟩
        have h : k < es.length := by have := Hn.out; omega
        have h1 := Hx.out
        simp only [List.getD_eq_getElem?_getD, List.getElem?_eq_getElem h, Option.getD_some] at h1
        rw [idxI_hit h (fun j hj hjk => hE.out j hj hjk) (by rw [h1]; exact Hq.out)]
        rfl
    · obtain rfl : k = n := by omega
      go_wp2
      go_ret
      refine ⟨?_, hbel⟩
      rw [idxI_miss (fun j hj => hE.out j hj (by have := Hn.out; omega))]
      rfl
set_option maxHeartbeats 400000 in
theorem containsX_any (A : Option Addr) (c : Nat) (es : List Int) (n : Nat) (g : Nat) (lb : Array Value) (p : Int → Bool) (w : World) (q : Bool) (Hn : Hid (es.length = n)) (hq : Hid (es.any p = q)) (hl : n ≤ 1048576) (hr : RdI w A es) (eg0 : Ent g) (hp : PredX g lb p es w) :
    Calls Try.prog 109 #[.slice A n c, .func (.func g) #[] lb] w fun e w' => e = .returned (.bool q) ∧ Below w.heap.size w w' := by
  have hi := idxI_any p es
  rw [hq.out] at hi
  have Hi := Lib.hid hi; clear hi
  have hcall := indexX_any A c es n g lb p w Hn hl hr eg0 hp
  obtain ⟨r, Hr⟩ : ∃ r, Hid (idxI p es = r) := ⟨_, rfl⟩
  rw [Hr.out] at hcall Hi
  clear hp eg0 hr
  go_enter Try.func109, Try.ntmps109
  go_wp2_with fail
  refine hcall.mono ?_
  rintro e w2 ⟨rfl, hb2⟩
  go_wp2
  go_ret
  exact ⟨by rw [← Hi.out]; rfl, hb2⟩

/-- Edge h is near to both. -/
def midB (es : List (Int × Int)) (i j h : Nat) : Bool := nearB (es.getD i (0, 0)) (es.getD h (0, 0)) && nearB (es.getD h (0, 0)) (es.getD j (0, 0))
/-- Two edges are close. -/
def closeB (es : List (Int × Int)) (i j : Nat) : Bool := nearB (es.getD i (0, 0)) (es.getD j (0, 0)) || (List.range es.length).any (midB es i j)

theorem closeB_idx (es : List (Int × Int)) (i j : Nat) : (idx es.length).any (fun h => midB es i j h.toNat) = (List.range es.length).any (midB es i j) := by
  simp [idx, List.any_map, Function.comp_def]
theorem mem_idx {n : Nat} {a : Int} (h : a ∈ idx n) : ∃ k : Nat, a = k ∧ k < n := by
  simp only [idx, List.mem_map, List.mem_range] at h
  obtain ⟨k, hk, rfl⟩ := h
  exact ⟨k, rfl, hk⟩

end Go.Proofs.Ytigdfcigoejjjaa
