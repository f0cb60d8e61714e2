/- slices.Values and slices.Collect over ints: their contracts. No statement of the program is proved here. -/
import Derived.Test.YtjgmoffkecnmcaaGreatGr
import Derived.Test.YtjgmoffkecnmcaaGreatAp1
import Derived.Test.YtjgmoffkecnmcaaGreatEx2
import Derived.RangeFuncNested
import Derived.RangeFuncBound
import Derived.RangeFuncCalls
import Derived.RangeFuncLeaves
import Derived.RangeFuncBox
import Derived.Shelf.Abstract
import Derived.Shelf.RegionOpen
import Derived.Shelf.SlIter.Collect
import Derived.OwnWalkIn
import Derived.TacticsInMore
import Derived.LoopNIn
import Derived.LoopIn
namespace Go.Proofs.YtjgmoffkecnmcaaGreat
open Go.RowKit Go.Shelf Go.Maps
set_option linter.unusedSimpArgs false
set_option linter.unusedVariables false
set_option maxRecDepth 100000
attribute [local go_sem] Oper.semAt_some

/-- The blocks below n₀ are as they were. -/
def KeepN (n₀ : Nat) (W W' : World) : Prop := ∀ b, b < n₀ → W'.heap[b]? = W.heap[b]?
theorem KeepN.refl (n₀ : Nat) (W : World) : KeepN n₀ W W := fun _ _ => rfl
theorem KeepN.trans {n₀ : Nat} {A B C : World} (h : KeepN n₀ A B) (k : KeepN n₀ B C) : KeepN n₀ A C := fun b h1 => (k b h1).trans (h b h1)
theorem KeepN.cell {n₀ : Nat} {A B : World} (h : KeepN n₀ A B) {b o : Nat} (h1 : b < n₀) : B.cell? ⟨b, o, none⟩ = A.cell? ⟨b, o, none⟩ := World.cell?_of_block (w := A) (a := ⟨b, o, none⟩) (h b h1)
theorem KeepN.put {n₀ : Nat} {w : World} (hn : n₀ ≤ w.heap.size) (W : World) (l : Nat) (o o' : Obj) (hl : w.heap.size ≤ l) (_ : W.heap[l]? = some o) (_ : o.isCells = false) (_ : o.isWalk = false) : KeepN n₀ W (W.putObj l o') := fun b h1 => World.putObj_heap_other (by omega)
theorem take_snocZ {xs : List Int} {k : Nat} (h : k < xs.length) : xs.take (k + 1) = xs.take k ++ [xs.getD k 0] := by
  rw [List.take_add_one, List.getElem?_eq_getElem h]; simp [List.getD, h]

set_option maxHeartbeats 4000000 in
theorem vals1_in (F : Fence) (n : Nat) (hf : F.fn 73) (hro : F.round = none) (hn : 1 ≤ n) (l Bs n₀ : Nat) (A : Option Addr) (cap : Nat) (zs : List Int) (hz : zs.length ≤ 1000000) (hA : 0 < zs.length → ∀ b o, A = some ⟨b, o, none⟩ → b < n₀) (J Jx : List Int → World → Prop)
    (hY : ∀ pre x W, J pre W → pre.length < zs.length → YieldAt F (n - 1) Tryz.prog l #[.int .i64 x] W fun e W' =>
      (e = .returned (.bool true) ∧ J (pre ++ [x]) W' ∧ KeepN n₀ W W') ∨ (e = .returned (.bool false) ∧ Jx (pre ++ [x]) W'))
    (W : World) (hBs : W.cell? ⟨Bs, 0, none⟩ = some (.slice A zs.length cap)) (hr : RdI W A zs) (h0 : J [] W) :
    CallsIn F n Tryz.prog 73 #[.func (.yield l) #[] #[], .pointer (some ⟨Bs, 0, none⟩)] W fun e W' => (∃ v, e = .returned v) ∧
      ((∃ ys, ys = zs ∧ J ys W') ∨ (∃ pre, (∃ k, k ≤ zs.length ∧ pre = zs.take k) ∧ Jx pre W')) := by
  refine callsIn_of_wp Tryz.func73 rfl hf ?_ hro
  simp only [Tryz.ntmps73, List.size_toArray, List.length_cons, List.length_nil, Nat.reduceAdd, Nat.reduceSub, Array.replicate_succ, Array.replicate_zero, List.push_toArray, List.append_toArray, List.nil_append, List.cons_append]
  obtain ⟨len, Hlen⟩ : ∃ len, Hid (zs.length = len) := ⟨_, rfl⟩
  rw [Hlen.out] at hBs hz hY ⊢
  gi_wp2
  gi_loopw [7] (fun i wr => ∃ k : Nat, k ≤ len ∧ i = .int .i64 k ∧ J (zs.take k) wr ∧ Hid (KeepN n₀ W wr)) (fun i _ => len - (intOf i).toNat)
  case atStart => exact ⟨0, Nat.zero_le _, by simp, h0, KeepN.refl _ _⟩
  case round =>
    obtain ⟨k, hk, rfl, hJs, hnx⟩ := hrel
    by_cases hlt : k < len
    · obtain ⟨b, off, rfl, hb, hc⟩ := hr.pos (by rw [Hlen.out]; omega)
      have hcx := (hnx.out.cell (o := off + k) (hA (by rw [Hlen.out]; omega) b off rfl)).trans (hc k (by rw [Hlen.out]; omega))
      have hkl : k < zs.length := by rw [Hlen.out]; exact hlt
      obtain ⟨fn, tmps, assign, body, hy, hR⟩ := hY _ (zs.getD k 0) wr hJs (by rw [List.length_take, Hlen.out]; omega)
      have Hsu : Hid (zs.take k ++ [zs.getD k 0] = zs.take (k + 1)) := (take_snocZ hkl).symm
      rw [Hsu.out] at hR
      obtain ⟨x, Hx⟩ : ∃ x, Hid (zs.getD k 0 = x) := ⟨_, rfl⟩
      rw [Hx.out] at hcx hy
      obtain ⟨ek, ek2, ek3⟩ := idxF k len hlt
      have w2 : wrap64 ((k : Int) + 1) = ((k + 1 : Nat) : Int) := by rw [wrap64_small (by omega) (by omega)]; omega
      clear hc hr hkl
      gi_wp2
      refine hR.mono ?_
      rintro e W3 (⟨rfl, hJ3, hk3⟩ | ⟨rfl, hJx3⟩)
      · gi_wp2
        go_roundw
        case rel => exact ⟨k + 1, by omega, by first | (rw [w2]; done) | rfl | (congr 1; omega), hJ3, hnx.out.trans hk3⟩
        case measure => first | (simp [intOf]; done) | (simp [intOf]; omega) | (rw [w2]; simp [intOf]; omega)
      · gi_wp2
        refine bodyPost_ret (results_none rfl _ _ _) rfl ?_
        exact ⟨⟨_, rfl⟩, .inr ⟨_, ⟨k + 1, by first | omega | (rw [Hlen.out]; omega), rfl⟩, hJx3⟩⟩
    · obtain rfl : k = len := by omega
      have hfull : zs.take k = zs := List.take_of_length_le (by rw [Hlen.out]; exact Nat.le_refl _)
      rw [hfull] at hJs
      gi_wp2
      go_end0
      exact ⟨⟨_, rfl⟩, .inl ⟨_, rfl, hJs⟩⟩

theorem vals_in (A : Option Addr) (len cap : Nat) (w : World) :
    Calls Tryz.prog 52 #[.slice A len cap] w fun e w' => e = .returned (.func (.func 73) #[] #[.pointer (some ⟨w.heap.size, 0, none⟩)]) ∧ w' = w.alloc (.cells #[.slice A len cap] 43) := by
  have hmf : ∀ (fn : Fn) (first cap : Array Value) (w : World), (Instr.makeFunc fn first cap).run Tryz.prog w = .ok (.func fn first cap) w := fun _ _ _ _ => rfl
  go_enter Tryz.func52, Tryz.ntmps52
  go_wp2
  go_ret
  exact ⟨rfl, rfl⟩
theorem vals_stops (F : Fence) (n : Nat) (hf : F.fn 73) (hro : F.round = none) (hn : 1 ≤ n) (Bs n₀ : Nat) (A : Option Addr) (cap : Nat) (zs : List Int) (hz : zs.length ≤ 1000000) (hA : 0 < zs.length → ∀ b o, A = some ⟨b, o, none⟩ → b < n₀)
    (w : World) (hB : Bs < w.heap.size) (hBs : w.cell? ⟨Bs, 0, none⟩ = some (.slice A zs.length cap)) (hr : RdI w A zs) :
    SeqStopsK F n Tryz.prog 73 #[.pointer (some ⟨Bs, 0, none⟩)] (fun x : Int => #[Value.int .i64 x]) (KeepN n₀) (fun ys => ys = zs) (fun pre => ∃ k, k ≤ zs.length ∧ pre = zs.take k) zs.length w :=
  fun l J Jx W hW _ _ hY h0 => vals1_in F n hf hro hn l Bs n₀ A cap zs hz hA J Jx hY W ((hW.cell (p := ⟨Bs, 0, none⟩) hB).trans hBs) (hr.below hW) h0

/-- What the rounds keep: the box, the row that it owns. -/
def apI (w : World) (pre : List Int) (W : World) : Prop :=
  (∃ v, Blk W w.heap.size 43 #[v] ∧ W.ownsRow (w.heap.size + 1) 2 1 v pre.length (cI pre)) ∧ Below w.heap.size w W
theorem apI_own (w : World) (B : Nat) (hB : w.heap.size ≤ B) : OwnFrom B (apI w) := fun s W W' row hs hg hr => by
  obtain ⟨⟨v, hb, ho⟩, hbel⟩ := hs
  refine ⟨⟨v, ?_, ho.kept hg ?_⟩, hbel.grown hg hbel.size (fun k e => Nat.le_trans hB (hr k e).1)⟩
  · have hb' : W.heap[w.heap.size]? = some (.cells #[v] 43 (0, 0)) := hb
    refine (hg.block w.heap.size hb.lt fun e => ?_).trans hb'
    obtain ⟨_, o, ho2, hc⟩ := hr _ e.symm
    rw [hb'] at ho2
    cases ho2; cases hc
  · rcases ho.2 with ⟨rfl, _⟩ | ⟨g, cap, cur, rfl, _, hgb, _⟩
    · exact .inl rfl
    · refine .inr fun e' => ?_
      obtain ⟨_, o, ho2, hc⟩ := hr g (by simpa [Value.ownBlock] using e'.symm)
      rw [hgb] at ho2; cases ho2; cases hc

set_option maxHeartbeats 8000000 in
theorem appendSeq_b (Bs : Nat) (A : Option Addr) (cap : Nat) (zs : List Int) (w : World) (hz : zs.length ≤ 1000000) (hB : Bs < w.heap.size) (hBs : w.cell? ⟨Bs, 0, none⟩ = some (.slice A zs.length cap)) (hr : RdI w A zs) :
    Calls Tryz.prog 85 #[.slice none 0 0, .func (.func 73) #[] #[.pointer (some ⟨Bs, 0, none⟩)]] w fun e w' => ∃ v, e = .returned v ∧ w'.ownsRow w.heap.size 2 1 v zs.length (cI zs) ∧ Below w.heap.size w w' := by
  obtain ⟨i0, hi, hz0, hz1, hz2⟩ := info_parts infoI
  have hA : 0 < zs.length → ∀ b o, A = some ⟨b, o, none⟩ → b < w.heap.size := fun hp b o e => by
    obtain ⟨b', o', e', hb', _⟩ := hr.pos hp
    rw [e'] at e; injection e with e; injection e with e _ _; omega
  have b1 : Below w.heap.size w (w.alloc (.cells #[.slice none 0 0] 43)) := Below.alloc (Below.refl _ _) (Nat.le_refl _) _
  have s1 := (b1.cell (p := ⟨Bs, 0, none⟩) hB).trans hBs
  have r1 := hr.below b1
  refine (callsIn_wide (n := 6)).1 ?_
  refine callsIn_of_wp_marks Tryz.func85 rfl trivial ?_ rfl
  simp only [Tryz.ntmps85, List.size_toArray, List.length_cons, List.length_nil, Nat.reduceAdd, Nat.reduceSub, Array.replicate_succ, Array.replicate_zero, List.push_toArray, List.append_toArray, List.nil_append, List.cons_append]
  refine wpIn_wide.2 ?_
  go_wp2
  refine (wpIn_wide (n := 6)).1 ?_
  refine wpIn_rangeFunc_ownF rfl (by omega) (gf := 73) (lb := #[.pointer (some ⟨Bs, 0, none⟩)]) rfl trivial (enters_of Tryz.func73 (by kernel_rfl) rfl)
    (vals_stops Fence.wide (6 - 1) trivial rfl (by omega) Bs w.heap.size A cap zs hz hA _ (by simp; omega) s1 r1) (fun h k => KeepN.trans h k) (KeepN.put (by simp)) (Below.refl _ _) (fun _ => rfl)
    (apI w) (fun _ _ _ => False) (apI_own w _ (by simp)) (fun _ _ _ _ _ hs _ _ => hs)
    ⟨⟨_, Blk.new w _ _, ⟨rfl, .inl ⟨rfl, rfl⟩⟩⟩, b1⟩
    (fun y => { tmps := #[.slice none 0 0, .func (.func 73) #[] #[.pointer (some ⟨Bs, 0, none⟩)], .pointer (some ⟨w.heap.size, 0, none⟩), undef, .slice none 0 0, .int .i64 y, .func (.func 73) #[] #[.pointer (some ⟨Bs, 0, none⟩)], .int .i64 y, undef, undef, undef, undef, undef], defers := [] }) ?assign ?body ?done ?stop
  case assign =>
    intro l y W K hK
    gi_wp2
    exact hK
  case body =>
    rintro l pre y W ⟨⟨v, hb, hrow⟩, hbel⟩ hpl
    have hc := hb.cellAt 0 _ rfl
    have hbw := hbel.size
    have zb := hb.lt
    have hb1 := hb.alloc (.cells #[.int .i64 y] 2)
    have hrow1 := hrow.alloc (.cells #[.int .i64 y] 2)
    gi_wp2_with (first
      | (gi_at_builtin; refine wpListIn_append_own _ rfl _ _ 43 rfl (w.heap.size + 1) 2 i0 (.int .i64 0) 1 8 Tryz.underlying43 hi hz0 hz1 hz2 rfl (by decide) _ _ _ rfl hrow1 ⟨W.heap.size, 0, none⟩ 1 1 [.int .i64 y] rfl rfl (cell_one_new _ _ _) (by simp [Value.oneCell']) (by unfold maxLen; omega) (by omega) (by simp; omega) ?_; intro v' w3 hown' hg3' hnil3
         have hg3 : (W.alloc (.cells #[.int .i64 y] 2)).grownBy w3 v.ownBlock := hg3'
         clear hg3'
         obtain ⟨g', c9', rfl, _, _⟩ := own_someI hown' (by omega)
         have hb3 : Blk w3 w.heap.size 43 #[v] := (hg3.block w.heap.size hb1.lt (fun e => by have := (hrow1.lt _ e.symm).1; omega)).trans hb1
         have hc3 := hb3.cellAt 0 _ rfl
         have hf3 := hb3.frozen 0)
      | gi_in)
    have hko : KeepsOthers (W.alloc (.cells #[.int .i64 y] 2)) w3 := KeepsOthers.of_grownBy hg3 fun j o hj ho => by
      rcases hrow1.2 with ⟨rfl, _⟩ | ⟨g, cap2, cur, rfl, _, hgb, _⟩
      · simp [Value.ownBlock] at hj
      · have : g = j := by simpa [Value.ownBlock] using hj
        subst this
        rw [hgb] at ho; cases ho; rfl
    have hkn : KeepN w.heap.size W w3 := fun b hbl => by
      refine (hg3.block b (by simp; omega) fun e => ?_).trans (Below.heap_alloc _ _ b (by omega))
      have := (hrow1.lt b e.symm).1
      omega
    have hbel3 : Below w.heap.size w w3 := (hbel.alloc hbel.size _).grown hg3 (by simp; omega) fun k e => by have := (hrow1.lt k e).1; omega
    refine ⟨((KeepsOthers.alloc _ _).trans hko).trans (KeepsOthers.setCell _ _ _), fun b hbl => (Below.heap_setCell _ _ _ _ (by show b ≠ w.heap.size; omega)).trans (hkn b hbl), ⟨.slice (some ⟨g', 0, none⟩) (pre.length + 1) c9', ?_, ?_⟩, hbel3.setCell (p := ⟨w.heap.size, 0, none⟩) (by show w.heap.size ≤ w.heap.size; omega) (.slice (some ⟨g', 0, none⟩) (pre.length + 1) c9')⟩
    · exact hb3.set_ 0 _
    · have h9 := own_set_far (i := 0) (u := .slice (some ⟨g', 0, none⟩) (pre.length + 1) c9') hown' (show w.heap.size < w.heap.size + 1 by omega)
      simpa [cI] using h9
  case done =>
    rintro D ys W hD rfl ⟨⟨v, hb, hrow⟩, hbel⟩ hK
    have hc := hb.cellAt 0 _ rfl
    (try simp only [World.size_alloc] at hD)
    have hB9 : Below w.heap.size w (W.putObj D (.deferred none)) := hbel.trans (belowK_b (w := w) (Nat.le_refl _) W D _ _ (by omega) hK rfl rfl)
    have hrow9 : (W.putObj D (.deferred none)).ownsRow w.heap.size 2 1 v ys.length (cI ys) := by
      refine own_mono (hrow.kept (grownBy_putObj_a W D (.deferred none)) (ownsRow_ne_a hrow hK (fun cur e => by cases e))) (by omega)
    have Hrow := Lib.hid hrow9
    have Hbel := Lib.hid hB9
    have HK := Lib.hid hK
    clear hK hrow hbel hb hrow9 hB9
    go_wp2
    refine ⟨by simp, .inl ⟨_, _, rfl, run_takeDeferred HK.out, ?_⟩⟩
    exact ⟨_, results_tmp rfl _ _ _, v, rfl, Hrow.out, Hbel.out⟩
  case stop =>
    rintro D c pre W _ _ h _
    exact h.elim
theorem collect_b (Bs : Nat) (A : Option Addr) (cap : Nat) (zs : List Int) (w : World) (hz : zs.length ≤ 1000000) (hB : Bs < w.heap.size) (hBs : w.cell? ⟨Bs, 0, none⟩ = some (.slice A zs.length cap)) (hr : RdI w A zs) :
    Calls Tryz.prog 71 #[.func (.func 73) #[] #[.pointer (some ⟨Bs, 0, none⟩)]] w fun e w' => ∃ v, e = .returned v ∧ w'.ownsRow w.heap.size 2 1 v zs.length (cI zs) ∧ Below w.heap.size w w' := by
  have ca := appendSeq_b Bs A cap zs w hz hB hBs hr
  go_enter Tryz.func71, Tryz.ntmps71
  go_wp2_with fail
  refine ca.mono ?_
  rintro e w1 ⟨v, rfl, hrow, hbel⟩
  go_wp2
  go_ret
  exact ⟨v, rfl, hrow, hbel⟩
end Go.Proofs.YtjgmoffkecnmcaaGreat
