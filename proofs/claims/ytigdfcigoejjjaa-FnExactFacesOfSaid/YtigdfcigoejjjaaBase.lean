/- Words for memory and small lemmas that all walks of this seat use; no statement of the program is proved here. -/
import Derived.Test.YtigdfcigoejjjaaRows
import Derived.WalkKit
import Derived.WalkSpells
import Derived.WalkLawsBesides
import Derived.Handy
import Derived.Lib.Hide
import Derived.BigQuiet
import Derived.Deep.QuietTactic
import Derived.Deep.RegionHeld3
import Derived.Deep.DeepCutAuto
namespace Go.Proofs.Ytigdfcigoejjjaa
open Go.RowKit
set_option linter.unusedSimpArgs false
set_option linter.unusedVariables false

/-- Block g of the world holds just the cells cs of the element type t, none of them frozen. -/
def Blk (w : World) (g : Nat) (t : TypeId) (cs : Array Value) : Prop := w.heap[g]? = some (.cells cs t (0, 0))

section
variable {w w' : World} {g : Nat} {t : TypeId} {cs : Array Value}
theorem Blk.lt (h : Blk w g t cs) : g < w.heap.size := by
  unfold Blk at h
  rcases Nat.lt_or_ge g w.heap.size with hl | hl
  · exact hl
  · rw [Array.getElem?_eq_none hl] at h; cases h
theorem Blk.cell (h : Blk w g t cs) (i : Nat) : w.cell? ⟨g, i, none⟩ = cs[i]? := cell_of_row w g i cs t (0, 0) h
theorem Blk.cellAt (h : Blk w g t cs) (i : Nat) (v : Value) (hv : cs[i]? = some v) : w.cell? ⟨g, i, none⟩ = some v := (h.cell i).trans hv
theorem Blk.frozen (h : Blk w g t cs) (i : Nat) : w.frozen? ⟨g, i, none⟩ = false := frozen_of_row w g i cs t h
theorem Blk.new (w : World) (t : TypeId) (cs : Array Value) : Blk (w.alloc (.cells cs t)) w.heap.size t cs := heap_alloc_new w _
theorem Blk.new' {n : Nat} (w : World) {t : TypeId} {cs : Array Value} (hn : n = w.heap.size) : Blk (w.alloc (.cells cs t)) n t cs := hn ▸ Blk.new w t cs
theorem Blk.alloc (h : Blk w g t cs) (o : Obj) : Blk (w.alloc o) g t cs := (Below.heap_alloc w o g h.lt).trans h
theorem Blk.drew (h : Blk w g t cs) : Blk w.drew g t cs := h
theorem Blk.drewN (h : Blk w g t cs) (n : Nat) : Blk (w.drewN n) g t cs := h
theorem Blk.set_ (h : Blk w g t cs) (i : Nat) (u : Value) : Blk (w.setCell ⟨g, i, none⟩ u) g t (cs.setIfInBounds i u) := heap_setCell_same w g i cs t u h
theorem Blk.far (h : Blk w g t cs) {p : Addr} (hp : g ≠ p.block) (u : Value) : Blk (w.setCell p u) g t cs := (Below.heap_setCell w p u g hp).trans h
theorem Blk.below {B : Nat} (h : Blk w g t cs) (hb : Below B w w') (hg : g < B) : Blk w' g t cs := (hb.block g hg).trans h
theorem Blk.eq_ {cs' : Array Value} (h : Blk w g t cs) (e : cs = cs') : Blk w g t cs' := e ▸ h
end

/-- Every cell and every mark of a block below B reads as before. -/
theorem bcell {B : Nat} {W w1 : World} (hb : Below B W w1) : (∀ b o, b < B → w1.cell? ⟨b, o, none⟩ = W.cell? ⟨b, o, none⟩) ∧ (∀ b o, b < B → w1.frozen? ⟨b, o, none⟩ = W.frozen? ⟨b, o, none⟩) :=
  ⟨fun b o h => hb.cell (p := ⟨b, o, none⟩) h, fun b o h => hb.frozen (p := ⟨b, o, none⟩) h⟩

/-- The cells of a list of ints. -/
def cI (xs : List Int) : List Value := xs.map (Value.int .i64)
/-- The cells of a list of edges. -/
def cE (es : List (Int × Int)) : List Value := es.flatMap fun e => [.int .i64 e.1, .int .i64 e.2]

/-- A slice that begins at A reads as the ints xs. -/
def RdI (w : World) (A : Option Addr) (xs : List Int) : Prop :=
  xs = [] ∨ ∃ b off, A = some ⟨b, off, none⟩ ∧ b < w.heap.size ∧ ∀ j, j < xs.length → w.cell? ⟨b, off + j, none⟩ = some (.int .i64 (xs.getD j 0))
/-- A slice that begins at A reads as the edges es. -/
def RdE (w : World) (A : Option Addr) (es : List (Int × Int)) : Prop :=
  es = [] ∨ ∃ b off, A = some ⟨b, off, none⟩ ∧ b < w.heap.size ∧ ∀ j, j < es.length → w.cell? ⟨b, off + j * 2, none⟩ = some (.int .i64 (es.getD j (0, 0)).1) ∧ w.cell? ⟨b, off + j * 2 + 1, none⟩ = some (.int .i64 (es.getD j (0, 0)).2)

section
variable {w w' : World} {A : Option Addr}
theorem RdI.pos {xs : List Int} (h : RdI w A xs) (hp : 0 < xs.length) : ∃ b off, A = some ⟨b, off, none⟩ ∧ b < w.heap.size ∧ ∀ j, j < xs.length → w.cell? ⟨b, off + j, none⟩ = some (.int .i64 (xs.getD j 0)) := by
  rcases h with rfl | h
  · simp at hp
  · exact h
theorem RdE.pos {es : List (Int × Int)} (h : RdE w A es) (hp : 0 < es.length) : ∃ b off, A = some ⟨b, off, none⟩ ∧ b < w.heap.size ∧ ∀ j, j < es.length → w.cell? ⟨b, off + j * 2, none⟩ = some (.int .i64 (es.getD j (0, 0)).1) ∧ w.cell? ⟨b, off + j * 2 + 1, none⟩ = some (.int .i64 (es.getD j (0, 0)).2) := by
  rcases h with rfl | h
  · simp at hp
  · exact h
theorem RdI.below {xs : List Int} (h : RdI w A xs) (hb : Below w.heap.size w w') : RdI w' A xs := by
  rcases h with h | ⟨b, off, e, hlt, hc⟩
  · exact .inl h
  · exact .inr ⟨b, off, e, Nat.lt_of_lt_of_le hlt hb.size, fun j hj => (hb.cell (p := ⟨b, off + j, none⟩) hlt).trans (hc j hj)⟩
theorem RdE.below {es : List (Int × Int)} (h : RdE w A es) (hb : Below w.heap.size w w') : RdE w' A es := by
  rcases h with h | ⟨b, off, e, hlt, hc⟩
  · exact .inl h
  · exact .inr ⟨b, off, e, Nat.lt_of_lt_of_le hlt hb.size, fun j hj => ⟨(hb.cell (p := ⟨b, off + j * 2, none⟩) hlt).trans (hc j hj).1, (hb.cell (p := ⟨b, off + j * 2 + 1, none⟩) hlt).trans (hc j hj).2⟩⟩
end

theorem getD_cI (xs : List Int) (j : Nat) (h : j < xs.length) : (cI xs)[j]? = some (.int .i64 (xs.getD j 0)) := by
  simp [cI, List.getElem?_eq_getElem h, List.getD_eq_getElem?_getD]
theorem length_cI (xs : List Int) : (cI xs).length = xs.length := by simp [cI]
theorem cE_cons (e : Int × Int) (es : List (Int × Int)) : cE (e :: es) = .int .i64 e.1 :: .int .i64 e.2 :: cE es := rfl
theorem length_cE (es : List (Int × Int)) : (cE es).length = es.length * 2 := by
  induction es with
  | nil => rfl
  | cons e es ih => rw [cE_cons]; simp [ih]; omega
theorem cE_append (a b : List (Int × Int)) : cE (a ++ b) = cE a ++ cE b := by simp [cE]
theorem getD_cE0 (es : List (Int × Int)) : ∀ (j : Nat), j < es.length → (cE es)[j * 2]? = some (.int .i64 (es.getD j (0, 0)).1) := by
  induction es with
  | nil => intro j h; simp at h
  | cons e es ih =>
    intro j h
    cases j with
    | zero => rfl
    | succ j =>
      have := ih j (by simpa using h)
      rw [cE_cons, show (j + 1) * 2 = j * 2 + 1 + 1 by omega]
      simpa using this
theorem getD_cE1 (es : List (Int × Int)) : ∀ (j : Nat), j < es.length → (cE es)[j * 2 + 1]? = some (.int .i64 (es.getD j (0, 0)).2) := by
  induction es with
  | nil => intro j h; simp at h
  | cons e es ih =>
    intro j h
    cases j with
    | zero => rfl
    | succ j =>
      have := ih j (by simpa using h)
      rw [cE_cons, show (j + 1) * 2 + 1 = j * 2 + 1 + 1 + 1 by omega]
      simpa using this
theorem cI_set (xs : List Int) (j : Nat) (v : Int) : cI (xs.set j v) = (cI xs).set j (.int .i64 v) := by simp [cI, List.map_set]
theorem cE_set (es : List (Int × Int)) : ∀ (j : Nat) (a b : Int), cE (es.set j (a, b)) = ((cE es).set (j * 2) (.int .i64 a)).set (j * 2 + 1) (.int .i64 b) := by
  induction es with
  | nil => intro j a b; simp [cE]
  | cons e es ih =>
    intro j a b
    cases j with
    | zero => rfl
    | succ j =>
      have := ih j a b
      rw [List.set_cons_succ, cE_cons, cE_cons, show (j + 1) * 2 = j * 2 + 1 + 1 by omega, show j * 2 + 1 + 1 + 1 = (j * 2 + 1) + 1 + 1 by omega]
      simp [this]

/-- What the call owns is kept by whatever leaves the blocks that were there. -/
theorem own_below {w w' : World} {base : Nat} {e : TypeId} {size : Nat} {v : Value} {n : Nat} {xs : List Value} (h : w.ownsRow base e size v n xs) (hb : Below w.heap.size w w') : w'.ownsRow base e size v n xs := by
  obtain ⟨h1, h2⟩ := h
  refine ⟨h1, ?_⟩
  rcases h2 with h2 | ⟨g, cap, cur, hv, hg, hh, r⟩
  · exact .inl h2
  · exact .inr ⟨g, cap, cur, hv, hg, (hb.block g (Blk.lt (t := e) (cs := cur) hh)).trans hh, r⟩
theorem own_mono {w : World} {base base' : Nat} {e : TypeId} {size : Nat} {v : Value} {n : Nat} {xs : List Value} (h : w.ownsRow base e size v n xs) (hb : base' ≤ base) : w.ownsRow base' e size v n xs := by
  obtain ⟨h1, h2⟩ := h
  refine ⟨h1, ?_⟩
  rcases h2 with h2 | ⟨g, cap, cur, hv, hg, r⟩
  · exact .inl h2
  · exact .inr ⟨g, cap, cur, hv, Nat.le_trans hb hg, r⟩
theorem own_blk {w : World} {g t : Nat} {size : Nat} {xs : List Value} {n : Nat} (h : Blk w g t xs.toArray) (hn : xs.length = n * size) (hm : n ≤ maxLen) : w.ownsRow g t size (.slice (some ⟨g, 0, none⟩) n n) n xs :=
  ⟨hn, .inr ⟨g, n, xs.toArray, rfl, Nat.le_refl _, h, Nat.le_refl _, hm, by simpa using hn, by simp [← hn]⟩⟩
theorem own_rdI {w : World} {base : Nat} {e : TypeId} {A : Option Addr} {n c : Nat} {xs : List Int} (h : w.ownsRow base e 1 (.slice A n c) n (cI xs)) : RdI w A xs := by
  obtain ⟨h1, h2⟩ := h
  rw [length_cI] at h1
  rcases h2 with ⟨_, h2⟩ | ⟨g, cap, cur, hv, hg, hh, _, _, hs, ht⟩
  · exact .inl (List.eq_nil_of_length_eq_zero (by omega))
  · injection hv with hv _ _
    refine .inr ⟨g, 0, hv, Blk.lt (t := e) (cs := cur) hh, fun j hj => ?_⟩
    have := getD_cI xs j hj
    rw [← ht, List.getElem?_take_of_lt (by omega)] at this
    rw [Nat.zero_add, Blk.cell (t := e) hh, ← Array.getElem?_toList]; exact this
theorem own_rdE {w : World} {base : Nat} {e : TypeId} {A : Option Addr} {n c : Nat} {es : List (Int × Int)} (h : w.ownsRow base e 2 (.slice A n c) n (cE es)) : RdE w A es := by
  obtain ⟨h1, h2⟩ := h
  rw [length_cE] at h1
  rcases h2 with ⟨_, h2⟩ | ⟨g, cap, cur, hv, hg, hh, _, _, hs, ht⟩
  · exact .inl (List.eq_nil_of_length_eq_zero (by omega))
  · injection hv with hv _ _
    refine .inr ⟨g, 0, hv, Blk.lt (t := e) (cs := cur) hh, fun j hj => ⟨?_, ?_⟩⟩
    · have := getD_cE0 es j hj
      rw [← ht, List.getElem?_take_of_lt (by omega)] at this
      rw [Nat.zero_add, Blk.cell (t := e) hh, ← Array.getElem?_toList]; exact this
    · have := getD_cE1 es j hj
      rw [← ht, List.getElem?_take_of_lt (by omega)] at this
      rw [Nat.zero_add, Blk.cell (t := e) hh, ← Array.getElem?_toList]; exact this

/-- make([]T, n): a new block of n zero values. -/
theorem mk_row {P : Program} {t e : TypeId} {z : Value} {size bytes : Nat} (ht : P.underlying t = some (.slice e)) (hi : (P.info? e).map (fun i => (i.zero, i.size, i.bytes)) = some (some z, size, bytes))
    (n : Nat) (hb : bytes * n ≤ 281474976710656) (hn : n ≤ 9223372036854775807) (W : World) :
    (Instr.makeSlice t (.int .i64 (n : Int)) (.int .i64 (n : Int))).run P W = .ok (.slice (some ⟨W.heap.size, 0, none⟩) n n) (W.alloc (.cells (madeCells z.cells (n * size)) e)) := by
  obtain ⟨i, hi0, hz, rfl, rfl⟩ := info_parts hi
  have h : ((i.bytes : Int) * (n : Int)) ≤ 281474976710656 := by
    have h : ((i.bytes * n : Nat) : Int) ≤ 281474976710656 := by omega
    rwa [Int.natCast_mul] at h
  have hr := run_make (P := P) W t e i z ht hi0 hz .i64 .i64 n n (by omega) (by omega) h (by omega)
  simpa only [Int.toNat_natCast] using hr
theorem made_int (n : Nat) : madeCells (Value.cells (.int .i64 0)) (n * 1) = (cI (List.replicate n 0)).toArray := by
  rw [Nat.mul_one]
  apply Array.ext
  · simp [madeCells, cI]
  · intro i h1 h2
    simp [madeCells, cI, Value.cells, Nat.mod_one]
theorem made_bool (n : Nat) : madeCells (Value.cells (.bool false)) (n * 1) = (List.replicate n (Value.bool false)).toArray := by
  rw [Nat.mul_one]
  apply Array.ext
  · simp [madeCells]
  · intro i h1 h2
    simp [madeCells, Value.cells, Nat.mod_one]
theorem cE_zeros (n : Nat) : cE (List.replicate n (0, 0)) = List.replicate (n * 2) (.int .i64 0) := by
  induction n with
  | zero => rfl
  | succ n ih => rw [List.replicate_succ, cE_cons, ih, show (n + 1) * 2 = n * 2 + 1 + 1 by omega]; rfl
theorem made_edge (n : Nat) : madeCells (Value.cells (.agg #[.int .i64 0, .int .i64 0])) (n * 2) = (cE (List.replicate n (0, 0))).toArray := by
  rw [cE_zeros]
  apply Array.ext
  · simp [madeCells]
  · intro i h1 h2
    have h : i % 2 = 0 ∨ i % 2 = 1 := by omega
    rcases h with h | h <;> simp [madeCells, Value.cells, h]

/-- A return whose result is a struct or an array that lies in a block of its own. -/
theorem ret_cell {P : Program} {fn : Func} {R : Ending → World → Prop} {a : Act} {w : World} {p : Tmp} {ty : TypeId} {d : TypeDesc} {g : Nat} {t : TypeId} {cs : Array Value}
    (h : fn.results = #[.cell p ty]) (hu : P.underlying ty = some d) (hd : (match d with | .struct _ | .array _ _ => true | _ => false) = true) (hi : (P.info? ty).map (·.size) = some cs.size)
    (hp : a.tmps.getD p undef = .pointer (some ⟨g, 0, none⟩)) {cs0 : Array Value} (hg : Blk w g t cs0) (he : cs0 = cs) (hdf : a.defers = []) (hR : R (.returned (.agg cs)) w) : bodyPost P fn R .ret a w := by
  subst he
  exact bodyPost_ret (results_cell_row h _ w g t cs0 (0, 0) d hp hg hu hd hi) hdf hR
/-- Likewise with a second result in a slot. -/
theorem ret_cell_tmp {P : Program} {fn : Func} {R : Ending → World → Prop} {a : Act} {w : World} {p q : Tmp} {ty : TypeId} {d : TypeDesc} {g : Nat} {t : TypeId} {cs : Array Value}
    (h : fn.results = #[.cell p ty, .tmp q]) (hu : P.underlying ty = some d) (hd : (match d with | .struct _ | .array _ _ => true | _ => false) = true) (hi : (P.info? ty).map (·.size) = some cs.size)
    (hp : a.tmps.getD p undef = .pointer (some ⟨g, 0, none⟩)) {cs0 : Array Value} (hg : Blk w g t cs0) (he : cs0 = cs) (hdf : a.defers = []) (hR : R (.returned (.tuple #[.agg cs, a.tmps.getD q undef])) w) : bodyPost P fn R .ret a w := by
  subst he
  refine bodyPost_ret (v := .tuple #[.agg cs0, a.tmps.getD q undef]) ?_ hdf hR
  have hp' : a.tmps[p]?.getD undef = .pointer (some ⟨g, 0, none⟩) := by simpa using hp
  simp [results, h, hp', asAddr, run_loadVar_row w g t ty cs0 (0, 0) d hg hu hd hi]

theorem below_drewN {B : Nat} {a w : World} (h : Below B a w) (n : Nat) : Below B a (w.drewN n) := ⟨h.os, h.tape, h.output, h.size, h.block⟩
/-- The region's next operation, with its slot said. -/
theorem wpAnyH_take_d {P : Program} {md : Region.Mode} {ops : Array Oper} {Q : Exit → Act → World → Prop} {S : World → Prop} {i : Nat} {oi : Oper} {d : Option Tmp} {v : Value} {fuel : Nat} {listed : Array Bool} {a : Act} {w : World} (hi : ops[i]? = some oi) (hd : oi.dst = d)
    (hs : Region.noSelect ops = true) (hf : Region.free md ops listed i = true) (hr : (Region.ready md ops listed).contains i = true)
    (hQ : ∀ c a w, Q (.panic c) (a.put d v) w → Q (.panic c) a w) (hy : YieldsIf P ops S oi v a) (hS : S w)
    (h : wpAnyH P md ops Q S fuel (listed.setIfInBounds i true) (a.put d v) w) : wpAnyH P md ops Q S (fuel + 1) listed a w := by
  subst hd; exact wpAnyH_take hi hs hf hr hQ hy hS h
end Go.Proofs.Ytigdfcigoejjjaa
