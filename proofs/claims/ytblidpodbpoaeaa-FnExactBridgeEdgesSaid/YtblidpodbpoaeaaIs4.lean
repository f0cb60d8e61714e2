/- areEdges. -/
import Derived.Test.YtblidpodbpoaeaaIs3
namespace Go.Proofs.Ytblidpodbpoaeaa
open Go.RowKit
set_option linter.unusedSimpArgs false
set_option linter.unusedVariables false

/-- whether a size and edges are as many as told, of different vertices -/
def areEdgesB (n : Int) (es : List (Int × Int)) : Bool := sizeB n && (decide ((es.length : Int) = 3 * n / 2) && es.all fun e => edgeOK n e.1 e.2)

theorem ent_areEdges1 : Ent 129 := enters_of Try.func129 (by kernel_rfl) rfl

theorem isSize_same (n : Int) (w : World) (q : Bool) (hq : Hid (sizeB n = q)) : Calls Try.prog 128 #[.int .i64 n] w fun e w' => e = .returned (.bool q) ∧ w' = w :=
  (isSize_b n w q hq).mono fun _ _ ⟨h, h'⟩ => ⟨h, h'.symm⟩
theorem lengthE_same (A : Option Addr) (n c : Nat) (w : World) : Calls Try.prog 86 #[.slice A n c] w fun e w' => e = .returned (.int .i64 n) ∧ w' = w :=
  (lengthE_any A n c w).mono fun _ _ ⟨h, h'⟩ => ⟨h, h'.symm⟩

set_option maxHeartbeats 1000000 in
theorem areEdges_b (n : Int) (A : Option Addr) (c : Nat) (es : List (Int × Int)) (w : World) (q : Bool) (hq : Hid (areEdgesB n es = q)) (hl : es.length ≤ 1048576) (hr : RdE w A es) :
    Calls Try.prog 101 #[.int .i64 n, .slice A es.length c] w fun e w' => e = .returned (.bool q) ∧ Below w.heap.size w w' := by
  have hmf : ∀ (fn : Fn) (first cap : Array Value) (w : World), (Instr.makeFunc fn first cap).run Try.prog w = .ok (.func fn first cap) w := fun _ _ _ _ => rfl
  obtain ⟨q1, h1⟩ : ∃ q1, Hid (sizeB n = q1) := ⟨_, rfl⟩
  cases q1
  · have Hq : Hid (false = q) := by show _ = _; rw [← hq.out, areEdgesB, h1.out]; rfl
    clear hq hr
    go_enter Try.func101, Try.ntmps101
    go_wp2
    go_quiet ((go_at_call 128; refine Calls.quiet_of_same (isSize_same _ _ false h1)))
    go_wp2
    go_ret
    exact ⟨by rw [← Hq.out]; rfl, by (repeat' (first | (with_reducible exact Below.refl _ _) | (with_reducible assumption) | (with_reducible refine Below.alloc ?_ ?_ _) | (with_reducible refine Below.drew ?_) | (with_reducible refine below_drewN ?_ _) | (with_reducible refine Below.setCell ?_ ?_ _) | (with_reducible refine Below.trans ?_ (Below.mono (by assumption) ?_)) | (first | omega | (simp only [World.size_alloc, World.size_setCell, World.size_drew]; omega) | (simp; omega) | (simp; done))))⟩
  · obtain ⟨⟨hn1, hn2⟩, hn3⟩ := sizeB_true.1 h1.out
    by_cases h2 : (es.length : Int) = 3 * n / 2
    · have hd : ((es.length : Int) == 3 * n / 2) = true := by simpa using h2
      have Hq : Hid ((es.all fun e => edgeOK n e.1 e.2) = q) := by show _ = _; rw [← hq.out, areEdgesB, h1.out]; simp [h2]
      have Hn3 := Lib.hid hn3
      have H2 := Lib.hid h2
      clear hq hn3 h2
      have hp : ∀ W, W.cell? ⟨w.heap.size, 0, none⟩ = some (.int .i64 n) → w.heap.size < W.heap.size → PredE 129 #[.pointer (some ⟨w.heap.size, 0, none⟩)] (fun e => edgeOK n e.1 e.2) W := by
        intro W hc hlt W' a b hW
        exact areEdges1_b w.heap.size n a b (by omega) (by omega) W' _ rfl (by have := hW.size; omega) ((hW.cell (p := ⟨w.heap.size, 0, none⟩) hlt).trans hc)
      have hcall : ∀ W, Below w.heap.size w W → w.heap.size < W.heap.size → W.cell? ⟨w.heap.size, 0, none⟩ = some (.int .i64 n) →
          Calls Try.prog 102 #[.slice A es.length c, .func (.func 129) #[] #[.pointer (some ⟨w.heap.size, 0, none⟩)]] W fun e w' => e = .returned (.bool q) ∧ Below W.heap.size W w' :=
        fun W hW hlt hc => areAllE_b A c es _ _ _ W q Hq hl (hr.below hW) ent_areEdges1 (hp W hc hlt)
      clear hp hr
      have Hcall := Lib.hid hcall; clear hcall
      go_enter Try.func101, Try.ntmps101
      go_wp2
      have hw1 : IntKind.i64.wrap (3 * n) = 3 * n := IntWalk.i64_in _ (by omega)
      have hw2 : (3 * n).tdiv 2 = 3 * n / 2 := Int.tdiv_eq_ediv_of_nonneg (by omega)
      have hw3 : IntKind.i64.wrap (3 * n / 2) = 3 * n / 2 := IntWalk.i64_in _ (by omega)
      go_region_held3 (fun w' => w'.cell? ⟨w.heap.size, 0, none⟩ = some (.int .i64 n)) (first | go_keep | (obtain ⟨hq, _⟩ := bcell ‹Below _ _ _›; (repeat' apply And.intro) <;> (rw [hq _ _ (by first | assumption | omega | (simp; done) | (simp; omega) | (simp; assumption))] <;> (first | assumption | (simp [*]; done)))))
        (first | (go_at_call 128; refine (isSize_b _ _ true h1).mono ?_; rintro e w2 ⟨rfl, rfl⟩) | (go_at_call 86; refine (lengthE_any _ _ _ _).mono ?_; rintro e w2 ⟨rfl, rfl⟩) | (go_at_call 102; refine (Hcall.out _ (by go_grown) (by simp) (by simp)).mono ?_; rintro e w2 ⟨rfl, hb2⟩))
      go_wp2
      go_ret
      exact ⟨by simp, by (repeat' (first | (with_reducible exact Below.refl _ _) | (with_reducible assumption) | (with_reducible refine Below.alloc ?_ ?_ _) | (with_reducible refine Below.drew ?_) | (with_reducible refine below_drewN ?_ _) | (with_reducible refine Below.setCell ?_ ?_ _) | (with_reducible refine Below.trans ?_ (Below.mono (by assumption) ?_)) | (first | omega | (simp only [World.size_alloc, World.size_setCell, World.size_drew]; omega) | (simp; omega) | (simp; done))))⟩
    · have hd : ((es.length : Int) == 3 * n / 2) = false := by simpa using h2
      have Hq : Hid (false = q) := by show _ = _; rw [← hq.out, areEdgesB, h1.out]; simp [h2]
      clear hq hr hn3 h2
      go_enter Try.func101, Try.ntmps101
      go_wp2
      go_quiet ((first | (go_at_call 128; refine Calls.quiet_of_same (isSize_same _ _ true h1)) | (go_at_call 86; refine Calls.quiet_of_same (lengthE_same _ _ _ _))))
      go_wp2
      go_ret
      exact ⟨by rw [← Hq.out]; rfl, by (repeat' (first | (with_reducible exact Below.refl _ _) | (with_reducible assumption) | (with_reducible refine Below.alloc ?_ ?_ _) | (with_reducible refine Below.drew ?_) | (with_reducible refine below_drewN ?_ _) | (with_reducible refine Below.setCell ?_ ?_ _) | (with_reducible refine Below.trans ?_ (Below.mono (by assumption) ?_)) | (first | omega | (simp only [World.size_alloc, World.size_setCell, World.size_drew]; omega) | (simp; omega) | (simp; done))))⟩
end Go.Proofs.Ytblidpodbpoaeaa
