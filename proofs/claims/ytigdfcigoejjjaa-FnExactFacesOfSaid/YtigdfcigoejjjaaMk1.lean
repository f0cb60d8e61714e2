/- The laws' functions that mark memory and look whether it is held; no statement of the program is proved here. -/
/- The laws' functions that mark the edges of graphs, and look whether the marks are held; no statement of the program is proved here. -/
import Derived.Test.YtigdfcigoejjjaaGlue
import Derived.Test.YtigdfcigoejjjaaMat
namespace Go.Proofs.Ytigdfcigoejjjaa
open Go.RowKit
set_option linter.unusedSimpArgs false
set_option linter.unusedVariables false
set_option maxRecDepth 20000

/-- From w to w', all blocks but A's are as they were. -/
structure Only (A : Option Addr) (w w' : World) : Prop where
  os : w'.os = w.os
  tape : w'.tape = w.tape
  output : w'.output = w.output
  size : w.heap.size ≤ w'.heap.size
  block : ∀ g, g < w.heap.size → (∀ o, A ≠ some ⟨g, o, none⟩) → w'.heap[g]? = w.heap[g]?

/-- A slice that begins at A reads as the ints xs; its block is none below n0, and can be written. -/
def FrI (w : World) (n0 : Nat) (A : Option Addr) (xs : List Int) : Prop :=
  xs = [] ∨ ∃ b off, A = some ⟨b, off, none⟩ ∧ n0 ≤ b ∧ b < w.heap.size ∧ (∀ o, w.frozen? ⟨b, o, none⟩ = false) ∧ ∀ j, j < xs.length → w.cell? ⟨b, off + j, none⟩ = some (.int .i64 (xs.getD j 0))
/-- A slice that begins at A reads as the edges es; its block is none below n0, and can be written. -/
def FrE (w : World) (n0 : Nat) (A : Option Addr) (es : List (Int × Int)) : Prop :=
  es = [] ∨ ∃ b off, A = some ⟨b, off, none⟩ ∧ n0 ≤ b ∧ b < w.heap.size ∧ (∀ o, w.frozen? ⟨b, o, none⟩ = false) ∧ ∀ j, j < es.length → w.cell? ⟨b, off + j * 2, none⟩ = some (.int .i64 (es.getD j (0, 0)).1) ∧ w.cell? ⟨b, off + j * 2 + 1, none⟩ = some (.int .i64 (es.getD j (0, 0)).2)

section
variable {w w' w'' : World} {A A' : Option Addr} {n0 n1 : Nat}
theorem Only.refl (A : Option Addr) (w : World) : Only A w w := ⟨rfl, rfl, rfl, Nat.le_refl _, fun _ _ _ => rfl⟩
theorem Only.trans (h : Only A w w') (k : Only A w' w'') : Only A w w'' :=
  ⟨k.os.trans h.os, k.tape.trans h.tape, k.output.trans h.output, Nat.le_trans h.size k.size, fun g hg ho => (k.block g (Nat.lt_of_lt_of_le hg h.size) ho).trans (h.block g hg ho)⟩
theorem Only.of_below (h : Below w.heap.size w w') : Only A w w' := ⟨h.os, h.tape, h.output, h.size, fun g hg _ => h.block g hg⟩
theorem Only.set {b off : Nat} (h : Only (some ⟨b, off, none⟩) w w') (o : Nat) (v : Value) : Only (some ⟨b, off, none⟩) w (w'.setCell ⟨b, o, none⟩ v) :=
  ⟨h.os, h.tape, h.output, by simpa [World.setCell] using h.size, fun g hg ho => (Below.heap_setCell _ _ _ _ (by intro e; dsimp only at e; subst e; exact ho off rfl)).trans (h.block g hg ho)⟩
theorem Only.below {b off : Nat} (h : Only (some ⟨b, off, none⟩) w w') {B : Nat} (hb : B ≤ b) (hB : B ≤ w.heap.size) : Below B w w' :=
  ⟨h.os, h.tape, h.output, h.size, fun k hk => h.block k (by omega) (by intro o e; injection e with e; injection e with e; omega)⟩
theorem FrI.rd {xs : List Int} (h : FrI w n0 A xs) : RdI w A xs := by
  rcases h with h | ⟨b, off, e, _, hb, _, hc⟩
  · exact .inl h
  · exact .inr ⟨b, off, e, hb, hc⟩
theorem FrE.rd {es : List (Int × Int)} (h : FrE w n0 A es) : RdE w A es := by
  rcases h with h | ⟨b, off, e, _, hb, _, hc⟩
  · exact .inl h
  · exact .inr ⟨b, off, e, hb, hc⟩
theorem FrI.nil : FrI w n0 A [] := .inl rfl
theorem FrE.nil : FrE w n0 A [] := .inl rfl
theorem FrI.mono {xs : List Int} (h : FrI w n0 A xs) (hn : n1 ≤ n0) : FrI w n1 A xs := by
  rcases h with h | ⟨b, off, e, h1, r⟩
  · exact .inl h
  · exact .inr ⟨b, off, e, Nat.le_trans hn h1, r⟩
theorem FrE.mono {es : List (Int × Int)} (h : FrE w n0 A es) (hn : n1 ≤ n0) : FrE w n1 A es := by
  rcases h with h | ⟨b, off, e, h1, r⟩
  · exact .inl h
  · exact .inr ⟨b, off, e, Nat.le_trans hn h1, r⟩
theorem FrI.below {xs : List Int} (h : FrI w n0 A xs) (hb : Below w.heap.size w w') : FrI w' n0 A xs := by
  rcases h with h | ⟨b, off, e, h1, hlt, hf, hc⟩
  · exact .inl h
  · exact .inr ⟨b, off, e, h1, Nat.lt_of_lt_of_le hlt hb.size, fun o => (hb.frozen (p := ⟨b, o, none⟩) hlt).trans (hf o), fun j hj => (hb.cell (p := ⟨b, off + j, none⟩) hlt).trans (hc j hj)⟩
theorem FrE.below {es : List (Int × Int)} (h : FrE w n0 A es) (hb : Below w.heap.size w w') : FrE w' n0 A es := by
  rcases h with h | ⟨b, off, e, h1, hlt, hf, hc⟩
  · exact .inl h
  · exact .inr ⟨b, off, e, h1, Nat.lt_of_lt_of_le hlt hb.size, fun o => (hb.frozen (p := ⟨b, o, none⟩) hlt).trans (hf o), fun j hj => ⟨(hb.cell (p := ⟨b, off + j * 2, none⟩) hlt).trans (hc j hj).1, (hb.cell (p := ⟨b, off + j * 2 + 1, none⟩) hlt).trans (hc j hj).2⟩⟩
/-- What lies in another block stays. -/
theorem FrI.only {xs : List Int} (h : FrI w n0 A xs) (ho : Only A' w w') (hA : ∀ g o o', n0 ≤ g → A = some ⟨g, o, none⟩ → A' ≠ some ⟨g, o', none⟩) : FrI w' n0 A xs := by
  rcases h with h | ⟨b, off, e, h1, hlt, hf, hc⟩
  · exact .inl h
  · have hblk := ho.block b hlt (fun o => hA b off o h1 e)
    exact .inr ⟨b, off, e, h1, Nat.lt_of_lt_of_le hlt ho.size, fun o => (World.frozen?_of_block (w := w) hblk).trans (hf o), fun j hj => (World.cell?_of_block (w := w) hblk).trans (hc j hj)⟩
theorem FrE.only {es : List (Int × Int)} (h : FrE w n0 A es) (ho : Only A' w w') (hA : ∀ g o o', n0 ≤ g → A = some ⟨g, o, none⟩ → A' ≠ some ⟨g, o', none⟩) : FrE w' n0 A es := by
  rcases h with h | ⟨b, off, e, h1, hlt, hf, hc⟩
  · exact .inl h
  · have hblk := ho.block b hlt (fun o => hA b off o h1 e)
    exact .inr ⟨b, off, e, h1, Nat.lt_of_lt_of_le hlt ho.size, fun o => (World.frozen?_of_block (w := w) hblk).trans (hf o), fun j hj => ⟨(World.cell?_of_block (w := w) hblk).trans (hc j hj).1, (World.cell?_of_block (w := w) hblk).trans (hc j hj).2⟩⟩
theorem FrI.away {xs : List Int} (h : FrI w n0 A xs) {g off : Nat} (ho : Only (some ⟨g, off, none⟩) w w') (hg : g < n0) : FrI w' n0 A xs :=
  h.only ho fun g' o o' h1 _ e => by injection e with e; injection e with e; omega
theorem FrE.away {es : List (Int × Int)} (h : FrE w n0 A es) {g off : Nat} (ho : Only (some ⟨g, off, none⟩) w w') (hg : g < n0) : FrE w' n0 A es :=
  h.only ho fun g' o o' h1 _ e => by injection e with e; injection e with e; omega
theorem blkI_fr {g t : Nat} {xs : List Int} (h : Blk w g t (cI xs).toArray) : FrI w g (some ⟨g, 0, none⟩) xs :=
  .inr ⟨g, 0, rfl, Nat.le_refl _, h.lt, fun o => h.frozen o, fun j hj => by rw [Nat.zero_add]; exact h.cellAt j _ (by simpa using getD_cI xs j hj)⟩
theorem blkE_fr {g t : Nat} {es : List (Int × Int)} (h : Blk w g t (cE es).toArray) : FrE w g (some ⟨g, 0, none⟩) es :=
  .inr ⟨g, 0, rfl, Nat.le_refl _, h.lt, fun o => h.frozen o, fun j hj => ⟨by rw [Nat.zero_add]; exact h.cellAt _ _ (by simpa using getD_cE0 es j hj), by rw [Nat.zero_add]; exact h.cellAt _ _ (by simpa using getD_cE1 es j hj)⟩⟩
end

/-- A list and a further value are returned; the list's memory is none below n0. -/
def RetI (w : World) (n0 : Nat) (e : Ending) (xs : List Int) (v : Value) : Prop := ∃ A c, e = .returned (.tuple #[.slice A xs.length c, v]) ∧ FrI w n0 A xs
theorem RetI.mk {w : World} {n0 : Nat} {A : Option Addr} {n c : Nat} {xs : List Int} {v u : Value} (h : FrI w n0 A xs) (hn : xs.length = n) (hv : u = v) : RetI w n0 (.returned (.tuple #[.slice A n c, u])) xs v := ⟨A, c, by rw [hn, hv], h⟩
theorem RetI.none {w : World} {n0 : Nat} {xs : List Int} {v u : Value} (hx : xs = []) (hv : u = v) : RetI w n0 (.returned (.tuple #[.slice none 0 0, u])) xs v := ⟨Option.none, 0, by rw [hx, hv]; rfl, .inl hx⟩
theorem RetI.open_ {w : World} {n0 M : Nat} {e : Ending} {xs : List Int} {v : Value} (h : RetI w n0 e xs v) (hM : xs.length = M) : ∃ A c, e = .returned (.tuple #[.slice A M c, v]) ∧ FrI w n0 A xs := by
  obtain ⟨A, c, h1, h2⟩ := h
  exact ⟨A, c, by rw [h1, hM], h2⟩
theorem RetI.mono {w : World} {n0 n1 : Nat} {e : Ending} {xs : List Int} {v : Value} (h : RetI w n0 e xs v) (hn : n1 ≤ n0) : RetI w n1 e xs v := by
  obtain ⟨A, c, h1, h2⟩ := h
  exact ⟨A, c, h1, h2.mono hn⟩
/-- The marks from k on. -/
def iotaI (k n : Nat) : List Int := (List.range n).map fun j => ((k + j : Nat) : Int)
theorem iotaI_len (k n : Nat) : (iotaI k n).length = n := by simp [iotaI]
theorem iotaI_getD (k n j : Nat) (h : j < n) : (iotaI k n).getD j 0 = ((k + j : Nat) : Int) := by simp [iotaI, List.getD, h]
def iotaE (k n : Nat) : List (Int × Int) := (List.range n).map fun j => (((k + 2 * j : Nat) : Int), ((k + 2 * j + 1 : Nat) : Int))
theorem iotaE_len (k n : Nat) : (iotaE k n).length = n := by simp [iotaE]
theorem iotaE_getD (k n j : Nat) (h : j < n) : (iotaE k n).getD j (0, 0) = (((k + 2 * j : Nat) : Int), ((k + 2 * j + 1 : Nat) : Int)) := by simp [iotaE, List.getD, h]

set_option maxHeartbeats 2000000 in
theorem markI_b (A : Option Addr) (n c k n0 : Nat) (xs : List Int) (w : World) (hn : xs.length = n) (hl : n ≤ 100000000) (hk : k ≤ 1000000000000) (hn0 : n0 ≤ w.heap.size) (hr : FrI w n0 A xs) :
    Calls Try.prog 18 #[.slice A n c, .int .i64 k] w fun e w' => e = .returned (.int .i64 ((k + n : Nat) : Int)) ∧ Only A w w' ∧ Below n0 w w' ∧ FrI w' n0 A (iotaI k n) := by
  rcases Nat.eq_zero_or_pos n with h0 | hpos
  · subst h0
    clear hr
    go_enter Try.func18, Try.ntmps18
    go_wp2
    go_loopw [1, 5] (fun s i wr => s = .int .i64 k ∧ i = .int .i64 0 ∧ wr = w) (fun _ _ _ => 0)
    case atStart => exact ⟨rfl, rfl, rfl⟩
    case round =>
      obtain ⟨rfl, rfl, rfl⟩ := hrel
      go_wp2
      go_ret
      exact ⟨rfl, Only.refl _ _, Below.refl _ _, .inl rfl⟩
  · obtain ⟨b, off, rfl, hb0, hb, hf, hc⟩ : ∃ b off, A = some ⟨b, off, none⟩ ∧ n0 ≤ b ∧ b < w.heap.size ∧ (∀ o, w.frozen? ⟨b, o, none⟩ = false) ∧ ∀ j, j < xs.length → w.cell? ⟨b, off + j, none⟩ = some (.int .i64 (xs.getD j 0)) := by
      rcases hr with rfl | h
      · simp at hn; omega
      · exact h
    rw [hn] at hc
    have Hf : Hid (∀ o, w.frozen? ⟨b, o, none⟩ = false) := hf
    have Hc : Hid (∀ j, j < n → ∃ v, w.cell? ⟨b, off + j, none⟩ = some v) := fun j hj => ⟨_, hc j hj⟩
    clear hr hf hc
    go_enter Try.func18, Try.ntmps18
    go_wp2
    go_loopw [1, 5] (fun s i wr => ∃ j : Nat, j ≤ n ∧ s = .int .i64 ((k + j : Nat) : Int) ∧ i = .int .i64 j ∧ Hid (Only (some ⟨b, off, none⟩) w wr) ∧ Hid (∀ o, wr.frozen? ⟨b, o, none⟩ = false) ∧ Hid (∀ a, a < j → wr.cell? ⟨b, off + a, none⟩ = some (.int .i64 ((k + a : Nat) : Int))) ∧ Hid (∀ a, j ≤ a → a < n → ∃ v, wr.cell? ⟨b, off + a, none⟩ = some v)) (fun _ i _ => n - (intOf i).toNat)
    case atStart => exact ⟨0, Nat.zero_le _, by simp, rfl, Only.refl _ _, Hf, fun a ha => by omega, fun a _ ha => Hc.out a ha⟩
    case round =>
      obtain ⟨j, hj, rfl, rfl, Ho, Hfr, Hd, Hu⟩ := hrel
      by_cases hlt : j < n
      · obtain ⟨v, hv⟩ := Hu.out j (Nat.le_refl _) hlt
        have hfz := Hfr.out (off + j)
        have ej : (j : Int).toNat = j := Int.toNat_natCast j
        obtain ⟨kj, Hkj⟩ : ∃ kj, Hid (k + j = kj) := ⟨_, rfl⟩
        have bkj : kj ≤ 2000000000000 := by have := Hkj.out; omega
        rw [Hkj.out]
        go_wp2
        refine ⟨⟨j + 1, by omega, by (have := Hkj.out); first | go_num | (congr 1; omega), by go_num, Ho.out.set _ _, ?_, ?_, ?_⟩, by simp [intOf]; omega⟩
        · intro o; rw [sc_frozen]; exact Hfr.out o
        · intro a ha
          by_cases e : a = j
          · subst e; rw [sc_same hv, Hkj.out]
          · rw [sc_other (addr_ne (.inr (by omega)))]; exact Hd.out a (by omega)
        · intro a h1 h2
          rw [sc_other (addr_ne (.inr (by omega)))]; exact Hu.out a (by omega) h2
      · obtain rfl : j = n := by omega
        go_wp2
        go_ret
        refine ⟨rfl, Ho.out, Ho.out.below hb0 hn0, .inr ⟨b, off, rfl, hb0, Nat.lt_of_lt_of_le hb Ho.out.size, Hfr.out, fun a ha => ?_⟩⟩
        rw [iotaI_len] at ha
        rw [iotaI_getD _ _ _ ha]; exact Hd.out a ha

set_option maxHeartbeats 2000000 in
theorem heldI_b (A : Option Addr) (n c k : Nat) (w : World) (hl : n ≤ 100000000) (hk : k ≤ 1000000000000) (hr : RdI w A (iotaI k n)) :
    Calls Try.prog 27 #[.slice A n c, .int .i64 k] w fun e w' => e = .returned (.int .i64 ((k + n : Nat) : Int)) ∧ Below w.heap.size w w' := by
  go_enter Try.func27, Try.ntmps27
  go_wp2
  go_loopw [1, 5] (fun s i wr => ∃ j : Nat, j ≤ n ∧ s = .int .i64 ((k + j : Nat) : Int) ∧ i = .int .i64 j ∧ wr = w) (fun _ i _ => n - (intOf i).toNat)
  case atStart => exact ⟨0, Nat.zero_le _, by simp, rfl, rfl⟩
  case round =>
    obtain ⟨j, hj, rfl, rfl, rfl⟩ := hrel
    by_cases hlt : j < n
    · obtain ⟨b, off, rfl, hb, hc⟩ := hr.pos (by rw [iotaI_len]; omega)
      have hv := hc j (by rw [iotaI_len]; exact hlt)
      rw [iotaI_getD _ _ _ hlt] at hv
      clear hc hr
      have ej : (j : Int).toNat = j := Int.toNat_natCast j
      obtain ⟨kj, Hkj⟩ : ∃ kj, Hid (k + j = kj) := ⟨_, rfl⟩
      have bkj : kj ≤ 2000000000000 := by have := Hkj.out; omega
      rw [Hkj.out] at hv ⊢
      have nb : ((kj : Int) != (kj : Int)) = false := by simp
      have nb2 : ((kj : Int) == (kj : Int)) = true := by simp
      go_wp2
      refine ⟨⟨j + 1, by omega, by (have := Hkj.out); first | go_num | (congr 1; omega), by go_num, by first | rfl | trivial⟩, by simp [intOf]; omega⟩
    · obtain rfl : j = n := by omega
      go_wp2
      go_ret
      exact ⟨rfl, Below.refl _ _⟩
end Go.Proofs.Ytigdfcigoejjjaa
namespace Go.Proofs.Ytigdfcigoejjjaa
open Go.RowKit
set_option linter.unusedSimpArgs false
set_option linter.unusedVariables false
set_option maxRecDepth 20000

set_option maxHeartbeats 4000000 in
theorem markE_b (A : Option Addr) (n c k n0 : Nat) (es : List (Int × Int)) (w : World) (hn : es.length = n) (hl : n ≤ 100000000) (hk : k ≤ 1000000000000) (hn0 : n0 ≤ w.heap.size) (hr : FrE w n0 A es) :
    Calls Try.prog 40 #[.slice A n c, .int .i64 k] w fun e w' => e = .returned (.int .i64 ((k + 2 * n : Nat) : Int)) ∧ Only A w w' ∧ Below n0 w w' ∧ FrE w' n0 A (iotaE k n) := by
  rcases Nat.eq_zero_or_pos n with h0 | hpos
  · subst h0
    clear hr
    go_enter Try.func40, Try.ntmps40
    go_wp2
    go_loopw [1, 5] (fun s i wr => s = .int .i64 k ∧ i = .int .i64 0 ∧ wr = w) (fun _ _ _ => 0)
    case atStart => exact ⟨rfl, rfl, rfl⟩
    case round =>
      obtain ⟨rfl, rfl, rfl⟩ := hrel
      go_wp2
      go_ret
      exact ⟨rfl, Only.refl _ _, Below.refl _ _, .inl rfl⟩
  · obtain ⟨b, off, rfl, hb0, hb, hf, hc⟩ : ∃ b off, A = some ⟨b, off, none⟩ ∧ n0 ≤ b ∧ b < w.heap.size ∧ (∀ o, w.frozen? ⟨b, o, none⟩ = false) ∧ ∀ j, j < es.length → w.cell? ⟨b, off + j * 2, none⟩ = some (.int .i64 (es.getD j (0, 0)).1) ∧ w.cell? ⟨b, off + j * 2 + 1, none⟩ = some (.int .i64 (es.getD j (0, 0)).2) := by
      rcases hr with rfl | h
      · simp at hn; omega
      · exact h
    rw [hn] at hc
    have Hf : Hid (∀ o, w.frozen? ⟨b, o, none⟩ = false) := hf
    have Hc : Hid (∀ j, j < 2 * n → ∃ v, w.cell? ⟨b, off + j, none⟩ = some v) := fun j hj => by
      rcases (by omega : j = (j / 2) * 2 ∨ j = (j / 2) * 2 + 1) with e | e
      · rw [e]; exact ⟨_, (hc (j / 2) (by omega)).1⟩
      · rw [e, ← Nat.add_assoc]; exact ⟨_, (hc (j / 2) (by omega)).2⟩
    clear hr hf hc
    go_enter Try.func40, Try.ntmps40
    go_wp2
    go_loopw [1, 5] (fun s i wr => ∃ j : Nat, j ≤ n ∧ s = .int .i64 ((k + 2 * j : Nat) : Int) ∧ i = .int .i64 j ∧ Hid (Only (some ⟨b, off, none⟩) w wr) ∧ Hid (∀ o, wr.frozen? ⟨b, o, none⟩ = false) ∧ Hid (∀ a, a < 2 * j → wr.cell? ⟨b, off + a, none⟩ = some (.int .i64 ((k + a : Nat) : Int))) ∧ Hid (∀ a, 2 * j ≤ a → a < 2 * n → ∃ v, wr.cell? ⟨b, off + a, none⟩ = some v)) (fun _ i _ => n - (intOf i).toNat)
    case atStart => exact ⟨0, Nat.zero_le _, by simp, rfl, Only.refl _ _, Hf, fun a ha => by omega, fun a _ ha => Hc.out a ha⟩
    case round =>
      obtain ⟨j, hj, rfl, rfl, Ho, Hfr, Hd, Hu⟩ := hrel
      by_cases hlt : j < n
      · obtain ⟨v, hv⟩ := Hu.out (2 * j) (Nat.le_refl _) (by omega)
        obtain ⟨v2, hv2⟩ := Hu.out (2 * j + 1) (by omega) (by omega)
        have hfz := Hfr.out (off + 2 * j)
        have hfz2 := Hfr.out (off + 2 * j + 1)
        rw [← Nat.add_assoc] at hv2
        have ej : (j : Int).toNat = j := Int.toNat_natCast j
        have ej2 : off + j * 2 = off + 2 * j := by omega
        obtain ⟨oj, Hoj⟩ : ∃ oj, Hid (off + 2 * j = oj) := ⟨_, rfl⟩
        rw [Hoj.out] at hv hv2 hfz hfz2 ej2
        have hne : w.heap.size = w.heap.size := rfl
        obtain ⟨kj, Hkj⟩ : ∃ kj, Hid (k + 2 * j = kj) := ⟨_, rfl⟩
        have bkj : kj ≤ 2000000000000 := by have := Hkj.out; omega
        rw [Hkj.out]
        have hv3 : (wr.setCell ⟨b, oj, none⟩ (.int .i64 (kj : Int))).cell? ⟨b, oj + 1, none⟩ = some v2 := (sc_other (addr_ne (.inr (by omega)))).trans hv2
        have hfz3 : (wr.setCell ⟨b, oj, none⟩ (.int .i64 (kj : Int))).frozen? ⟨b, oj + 1, none⟩ = false := by rw [sc_frozen]; exact hfz2
        clear hne hv2 hfz2
        go_wp2
        refine wp_loop_rounds 3 ?_
        rw [rounds_succ]; go_wp2
        rw [rounds_succ]; go_wp2
        rw [rounds_succ]; go_wp2
        refine ⟨⟨j + 1, by omega, by (have := Hkj.out); first | go_num | (congr 1; omega), by go_num, (Ho.out.set _ _).set _ _, ?_, ?_, ?_⟩, by simp [intOf]; omega⟩
        · intro o; rw [sc_frozen, sc_frozen]; exact Hfr.out o
        · intro a ha
          have := Hoj.out
          have := Hkj.out
          by_cases e : a = 2 * j + 1
          · subst e
            rw [show off + (2 * j + 1) = oj + 1 by omega, sc_same hv3]; first | (congr 2; omega) | (congr 1; omega)
          · by_cases e2 : a = 2 * j
            · subst e2
              rw [sc_other (addr_ne (.inr (by omega))), show off + 2 * j = oj by omega, sc_same hv, Hkj.out]
            · rw [sc_other (addr_ne (.inr (by omega))), sc_other (addr_ne (.inr (by omega)))]; exact Hd.out a (by omega)
        · intro a h1 h2
          have := Hoj.out
          rw [sc_other (addr_ne (.inr (by omega))), sc_other (addr_ne (.inr (by omega)))]; exact Hu.out a (by omega) h2
      · obtain rfl : j = n := by omega
        go_wp2
        go_ret
        refine ⟨rfl, Ho.out, Ho.out.below hb0 hn0, .inr ⟨b, off, rfl, hb0, Nat.lt_of_lt_of_le hb Ho.out.size, Hfr.out, fun a ha => ?_⟩⟩
        rw [iotaE_len] at ha
        rw [iotaE_getD _ _ _ ha]
        have h1 := Hd.out (2 * a) (by omega)
        have h2 := Hd.out (2 * a + 1) (by omega)
        exact ⟨by rw [Nat.mul_comm a 2]; exact h1, by rw [Nat.mul_comm a 2, Nat.add_assoc]; exact h2⟩

set_option maxHeartbeats 2000000 in
theorem markG_b (m : Int) (A : Option Addr) (n c k n0 : Nat) (es : List (Int × Int)) (w : World) (hn : es.length = n) (hl : n ≤ 100000000) (hk : k ≤ 1000000000000) (hn0 : n0 ≤ w.heap.size) (hr : FrE w n0 A es) :
    Calls Try.prog 17 #[.agg #[.int .i64 m, .slice A n c], .int .i64 k] w fun e w' => e = .returned (.int .i64 ((k + 2 * n : Nat) : Int)) ∧ Only A w w' ∧ Below n0 w w' ∧ FrE w' n0 A (iotaE k n) := by
  have hB0 : Below w.heap.size w (w.alloc (.cells #[.int .i64 m, .slice A n c] 32)) := Below.alloc (Below.refl _ _) (Nat.le_refl _) _
  have ce := markE_b A n c k n0 es (w.alloc (.cells #[.int .i64 m, .slice A n c] 32)) hn hl hk (by (first | omega | (simp only [World.size_alloc, World.size_setCell, World.size_drew]; omega) | (simp; omega) | (simp; done))) (hr.below hB0)
  obtain ⟨r, Hr⟩ : ∃ r : Int, Hid (((k + 2 * n : Nat) : Int) = r) := ⟨_, rfl⟩
  rw [Hr.out] at ce ⊢
  have HB0 := Lib.hid hB0
  clear hr hB0
  go_enter Try.func17, Try.ntmps17
  go_wp2_with fail
  refine ce.mono ?_
  rintro e w1 ⟨rfl, ho, hb, hf⟩
  go_wp2
  go_ret
  exact ⟨rfl, (Only.of_below HB0.out).trans ho, (HB0.out.mono hn0).trans hb, hf⟩
end Go.Proofs.Ytigdfcigoejjjaa
