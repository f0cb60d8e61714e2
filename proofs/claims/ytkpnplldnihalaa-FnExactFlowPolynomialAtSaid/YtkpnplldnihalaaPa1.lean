/- slices.Backward over ints: its contract in a range over a function. No statement of the program is proved here. -/
import Derived.Test.YtkpnplldnihalaaGr
import Derived.RangeFuncNested
import Derived.RangeFuncBound
import Derived.RangeFuncCalls
import Derived.RangeFuncLeaves
import Derived.RangeFuncBox
import Derived.Shelf.Abstract
import Derived.Shelf.RegionOpen
import Derived.OwnWalkIn
import Derived.TacticsInMore
import Derived.LoopNIn
import Derived.LoopIn
namespace Go.Proofs.Ytkpnplldnihalaa
open Go.RowKit Go.Shelf
set_option linter.unusedSimpArgs false
set_option linter.unusedVariables false
set_option maxRecDepth 100000
attribute [local go_sem] Oper.semAt_some

/-- Of the blocks below n₀, all but g are as they were. -/
def KeepB (n₀ g : Nat) (W W' : World) : Prop := ∀ b, b < n₀ → b ≠ g → W'.heap[b]? = W.heap[b]?
theorem KeepB.refl (n₀ g : Nat) (W : World) : KeepB n₀ g W W := fun _ _ _ => rfl
theorem KeepB.trans {n₀ g : Nat} {A B C : World} (h : KeepB n₀ g A B) (k : KeepB n₀ g B C) : KeepB n₀ g A C := fun b h1 h2 => (k b h1 h2).trans (h b h1 h2)
theorem KeepB.cell {n₀ g : Nat} {A B : World} (h : KeepB n₀ g A B) {b o : Nat} (h1 : b < n₀) (h2 : b ≠ g) : B.cell? ⟨b, o, none⟩ = A.cell? ⟨b, o, none⟩ := World.cell?_of_block (w := A) (a := ⟨b, o, none⟩) (h b h1 h2)
theorem KeepB.put {n₀ g : Nat} {w : World} (hn : n₀ ≤ w.heap.size) (W : World) (l : Nat) (o o' : Obj) (hl : w.heap.size ≤ l) (_ : W.heap[l]? = some o) (_ : o.isCells = false) (_ : o.isWalk = false) : KeepB n₀ g W (W.putObj l o') := fun b h1 _ => World.putObj_heap_other (by omega)
theorem KeepB.set {n₀ g : Nat} (W : World) (o : Nat) (v : Value) : KeepB n₀ g W (W.setCell ⟨g, o, none⟩ v) := fun b _ h2 => Below.heap_setCell _ _ _ _ h2
/-- What has come when k rounds are over. -/
def uptoB {α : Type} (f : Nat → α) (k : Nat) : List α := (List.range k).map f
theorem uptoB_succ {α : Type} (f : Nat → α) (k : Nat) : uptoB f (k + 1) = uptoB f k ++ [f k] := by simp [uptoB, List.range_succ]
theorem uptoB_len {α : Type} (f : Nat → α) (k : Nat) : (uptoB f k).length = k := by simp [uptoB]
/-- The element that comes at round j of a walk from the end. -/
def backF (zs : List Int) (j : Nat) : Int × Int := (((zs.length - 1 - j : Nat) : Int), zs.getD (zs.length - 1 - j) 0)

set_option maxHeartbeats 4000000 in
theorem back1_in (F : Fence) (n : Nat) (hf : F.fn 101) (hro : F.round = none) (hn : 1 ≤ n) (l Bs n₀ g : Nat) (A : Option Addr) (cap : Nat) (zs : List Int) (hz : zs.length ≤ 1000000) (hA : 0 < zs.length → ∀ b o, A = some ⟨b, o, none⟩ → b < n₀ ∧ b ≠ g) (J Jx : List (Int × Int) → World → Prop)
    (hY : ∀ pre x W, J pre W → pre.length < zs.length → YieldAt F (n - 1) Try.prog l #[.int .i64 x.1, .int .i64 x.2] W fun e W' =>
      (e = .returned (.bool true) ∧ J (pre ++ [x]) W' ∧ KeepB n₀ g W W') ∨ (e = .returned (.bool false) ∧ Jx (pre ++ [x]) W'))
    (W : World) (hBn : Bs < n₀) (hBg : Bs ≠ g) (hBs : W.cell? ⟨Bs, 0, none⟩ = some (.slice A zs.length cap)) (hr : RdI W A zs) (h0 : J [] W) :
    CallsIn F n Try.prog 101 #[.func (.yield l) #[] #[], .pointer (some ⟨Bs, 0, none⟩)] W fun e W' => (∃ v, e = .returned v) ∧
      ((∃ ys, ys = uptoB (backF zs) zs.length ∧ J ys W') ∨ (∃ pre, (∃ k, k ≤ zs.length ∧ pre = uptoB (backF zs) k) ∧ Jx pre W')) := by
  refine callsIn_of_wp Try.func101 rfl hf ?_ hro
  simp only [Try.ntmps101, List.size_toArray, List.length_cons, List.length_nil, Nat.reduceAdd, Nat.reduceSub, Array.replicate_succ, Array.replicate_zero, List.push_toArray, List.append_toArray, List.nil_append, List.cons_append]
  have w1 : wrap64 ((zs.length : Int) - 1) = (zs.length : Int) - 1 := wrap64_small (by omega) (by omega)
  obtain ⟨len, Hlen⟩ : ∃ len, Hid (zs.length = len) := ⟨_, rfl⟩
  rw [Hlen.out] at w1 hBs hz hY ⊢
  gi_wp2
  gi_loopw [3] (fun i wr => ∃ k : Nat, k ≤ len ∧ i = .int .i64 ((len : Int) - 1 - k) ∧ J (uptoB (backF zs) k) wr ∧ Hid (KeepB n₀ g W wr)) (fun i _ => (intOf i + 1).toNat)
  case atStart => exact ⟨0, Nat.zero_le _, by simp, h0, KeepB.refl _ _ _⟩
  case round =>
    obtain ⟨k, hk, rfl, hJs, hnx⟩ := hrel
    have hbs := (hnx.out.cell hBn hBg).trans hBs
    by_cases hlt : k < len
    · obtain ⟨b, off, rfl, hb, hc⟩ := hr.pos (by rw [Hlen.out]; omega)
      have hcx := (hnx.out.cell (o := off + (len - 1 - k)) (hA (by rw [Hlen.out]; omega) b off rfl).1 (hA (by rw [Hlen.out]; omega) b off rfl).2).trans (hc (len - 1 - k) (by rw [Hlen.out]; omega))
      obtain ⟨fn, tmps, assign, body, hy, hR⟩ := hY _ (backF zs k) wr hJs (by rw [uptoB_len]; exact hlt)
      have hbf : backF zs k = (((len - 1 - k : Nat) : Int), zs.getD (len - 1 - k) 0) := by rw [backF, Hlen.out]
      have Hsu : Hid (uptoB (backF zs) k ++ [backF zs k] = uptoB (backF zs) (k + 1)) := (uptoB_succ _ _).symm
      rw [Hsu.out] at hR
      rw [hbf] at hy
      dsimp only at hy
      obtain ⟨j, Hj⟩ : ∃ j, Hid (len - 1 - k = j) := ⟨_, rfl⟩
      obtain ⟨x, Hx⟩ : ∃ x, Hid (zs.getD (len - 1 - k) 0 = x) := ⟨_, rfl⟩
      rw [Hx.out] at hcx hy
      rw [Hj.out] at hcx hy
      have e1 : (len : Int) - 1 - k = (j : Int) := by have := Hj.out; omega
      rw [e1]
      obtain ⟨ej, ej2, ej3⟩ := idxF j len (by have := Hj.out; omega)
      have w2 : wrap64 ((j : Int) - 1) = (len : Int) - 1 - ((k + 1 : Nat) : Int) := by rw [wrap64_small (by omega) (by omega)]; omega
      clear hc hr hbf e1
      gi_wp2
      refine hR.mono ?_
      rintro e W3 (⟨rfl, hJ3, hk3⟩ | ⟨rfl, hJx3⟩)
      · gi_wp2
        go_roundw
        case rel => exact ⟨k + 1, by omega, by (have := Hj.out); first | (rw [w2]; done) | (congr 1; omega), hJ3, hnx.out.trans hk3⟩
        case measure => (have := Hj.out); first | (simp [intOf]; done) | (simp [intOf]; omega) | (rw [w2]; simp [intOf]; omega)
      · gi_wp2
        refine bodyPost_ret (results_none rfl _ _ _) rfl ?_
        exact ⟨⟨_, rfl⟩, .inr ⟨_, ⟨k + 1, by first | omega | (rw [Hlen.out]; omega), rfl⟩, hJx3⟩⟩
    · obtain rfl : k = len := by omega
      have e1 : (k : Int) - 1 - k = -1 := by omega
      rw [e1]
      gi_wp2
      go_end0
      exact ⟨⟨_, rfl⟩, .inl ⟨_, rfl, hJs⟩⟩

theorem back_in (A : Option Addr) (len cap : Nat) (w : World) :
    Calls Try.prog 63 #[.slice A len cap] w fun e w' => e = .returned (.func (.func 101) #[] #[.pointer (some ⟨w.heap.size, 0, none⟩)]) ∧ w' = w.alloc (.cells #[.slice A len cap] 36) := by
  have hmf : ∀ (fn : Fn) (first cap : Array Value) (w : World), (Instr.makeFunc fn first cap).run Try.prog w = .ok (.func fn first cap) w := fun _ _ _ _ => rfl
  go_enter Try.func63, Try.ntmps63
  go_wp2
  go_ret
  exact ⟨rfl, rfl⟩
theorem back_stops (F : Fence) (n : Nat) (hf : F.fn 101) (hro : F.round = none) (hn : 1 ≤ n) (Bs n₀ g : Nat) (A : Option Addr) (cap : Nat) (zs : List Int) (hz : zs.length ≤ 1000000) (hA : 0 < zs.length → ∀ b o, A = some ⟨b, o, none⟩ → b < n₀ ∧ b ≠ g) (hBn : Bs < n₀) (hBg : Bs ≠ g)
    (w : World) (hB : Bs < w.heap.size) (hBs : w.cell? ⟨Bs, 0, none⟩ = some (.slice A zs.length cap)) (hr : RdI w A zs) :
    SeqStopsK F n Try.prog 101 #[.pointer (some ⟨Bs, 0, none⟩)] (fun x : Int × Int => #[Value.int .i64 x.1, Value.int .i64 x.2]) (KeepB n₀ g) (fun ys => ys = uptoB (backF zs) zs.length) (fun pre => ∃ k, k ≤ zs.length ∧ pre = uptoB (backF zs) k) zs.length w :=
  fun l J Jx W hW _ _ hY h0 => back1_in F n hf hro hn l Bs n₀ g A cap zs hz hA J Jx hY W hBn hBg ((hW.cell (p := ⟨Bs, 0, none⟩) hB).trans hBs) (hr.below hW) h0
end Go.Proofs.Ytkpnplldnihalaa
