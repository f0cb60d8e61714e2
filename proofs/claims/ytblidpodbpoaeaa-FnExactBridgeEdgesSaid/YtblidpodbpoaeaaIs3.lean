/- areAll at edges and at ints, over whatever predicate; areEdges. -/
import Derived.Test.YtblidpodbpoaeaaIs2
import Derived.Shelf.Abstract
namespace Go.Proofs.Ytblidpodbpoaeaa
open Go.RowKit
set_option linter.unusedSimpArgs false
set_option linter.unusedVariables false

theorem all_any {α : Type} (p : α → Bool) (xs : List α) : xs.all p = !xs.any fun x => !p x := by
  induction xs with
  | nil => rfl
  | cons x xs ih => simp [ih]
set_option maxHeartbeats 400000 in
/-- What stands in a box, the function value of a predicate. -/
theorem areAllE1_b (B : Nat) (g : Nat) (lb : Array Value) (p : Int × Int → Bool) (w : World) (eg0 : Ent g) (hp : PredE g lb p w) (hB : B < w.heap.size) (hc : w.cell? ⟨B, 0, none⟩ = some (.func (.func g) #[] lb)) :
    PredE 131 #[.pointer (some ⟨B, 0, none⟩)] (fun x => !p x) w := by
  intro W a b hW
  have hc' := (hW.cell (p := ⟨B, 0, none⟩) hB).trans hc
  have hB' : B < W.heap.size := by have := hW.size; omega
  have eg := eg0
  unfold Ent at eg
  obtain ⟨q, Hq⟩ : ∃ q, Hid (p (a, b) = q) := ⟨_, rfl⟩
  dsimp only
  rw [Hq.out]
  have hp' := hp.below hW
  clear hp hW hc eg0
  have hmf : ∀ (fn : Fn) (first cap : Array Value) (w : World), (Instr.makeFunc fn first cap).run Try.prog w = .ok (.func fn first cap) w := fun _ _ _ _ => rfl
  show Calls Try.prog 131 #[.agg #[.int .i64 a, .int .i64 b], .pointer (some ⟨B, 0, none⟩)] W _
  have hcall := fun W' h => hp' W' a b h
  simp only [Hq.out] at hcall
  clear hp'
  go_enter Try.func131, Try.ntmps131
  go_wp2_with fail
  refine (hcall _ (by (repeat' (first | (with_reducible exact Below.refl _ _) | (with_reducible assumption) | (with_reducible refine Below.alloc ?_ ?_ _) | (with_reducible refine Below.drew ?_) | (with_reducible refine below_drewN ?_ _) | (with_reducible refine Below.setCell ?_ ?_ _) | (with_reducible refine Below.trans ?_ (Below.mono (by assumption) ?_)) | (first | omega | (simp only [World.size_alloc, World.size_setCell, World.size_drew]; omega) | (simp; omega) | (simp; done)))))).mono ?_
  rintro e w2 ⟨rfl, hb2⟩
  go_wp2_with fail
  go_ret
  exact ⟨by simp, by (repeat' (first | (with_reducible exact Below.refl _ _) | (with_reducible assumption) | (with_reducible refine Below.alloc ?_ ?_ _) | (with_reducible refine Below.drew ?_) | (with_reducible refine below_drewN ?_ _) | (with_reducible refine Below.setCell ?_ ?_ _) | (with_reducible refine Below.trans ?_ (Below.mono (by assumption) ?_)) | (first | omega | (simp only [World.size_alloc, World.size_setCell, World.size_drew]; omega) | (simp; omega) | (simp; done))))⟩

theorem ent_areAllE1 : Ent 131 := enters_of Try.func131 (by kernel_rfl) rfl

set_option maxHeartbeats 400000 in
theorem areAllE_b (A : Option Addr) (c : Nat) (es : List (Int × Int)) (g : Nat) (lb : Array Value) (p : Int × Int → Bool) (w : World) (q : Bool) (hq : Hid (es.all p = q)) (hl : es.length ≤ 1048576) (hr : RdE w A es) (eg0 : Ent g) (hp : PredE g lb p w) :
    Calls Try.prog 102 #[.slice A es.length c, .func (.func g) #[] lb] w fun e w' => e = .returned (.bool q) ∧ Below w.heap.size w w' := by
  have hmf : ∀ (fn : Fn) (first cap : Array Value) (w : World), (Instr.makeFunc fn first cap).run Try.prog w = .ok (.func fn first cap) w := fun _ _ _ _ => rfl
  have hq' : Hid (es.any (fun x => !p x) = !q) := by show _ = _; rw [← hq.out, all_any]; simp
  have hb : Below w.heap.size w (w.alloc (.cells #[.func (.func g) #[] lb] 112)) := by (repeat' (first | (with_reducible exact Below.refl _ _) | (with_reducible assumption) | (with_reducible refine Below.alloc ?_ ?_ _) | (with_reducible refine Below.drew ?_) | (with_reducible refine below_drewN ?_ _) | (with_reducible refine Below.setCell ?_ ?_ _) | (with_reducible refine Below.trans ?_ (Below.mono (by assumption) ?_)) | (first | omega | (simp only [World.size_alloc, World.size_setCell, World.size_drew]; omega) | (simp; omega) | (simp; done))))
  have hcall := containsE_any A c es 131 #[.pointer (some ⟨w.heap.size, 0, none⟩)] (fun x => !p x) (w.alloc (.cells #[.func (.func g) #[] lb] 112)) (!q) hq' hl (hr.below hb) ent_areAllE1
    (areAllE1_b w.heap.size g lb p _ eg0 (hp.below hb) (by simp) (by simp))
  clear hq' hr hp eg0 hq
  go_enter Try.func102, Try.ntmps102
  go_wp2_with fail
  refine hcall.mono ?_
  rintro e w2 ⟨rfl, hb2⟩
  go_wp2
  go_ret
  exact ⟨by simp, by (repeat' (first | (with_reducible exact Below.refl _ _) | (with_reducible assumption) | (with_reducible refine Below.alloc ?_ ?_ _) | (with_reducible refine Below.drew ?_) | (with_reducible refine below_drewN ?_ _) | (with_reducible refine Below.setCell ?_ ?_ _) | (with_reducible refine Below.trans ?_ (Below.mono (by assumption) ?_)) | (first | omega | (simp only [World.size_alloc, World.size_setCell, World.size_drew]; omega) | (simp; omega) | (simp; done))))⟩
end Go.Proofs.Ytblidpodbpoaeaa
