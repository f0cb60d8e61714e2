/- Vertices and edges that need different numbers: totalThings. -/
import Derived.Test.YtkpnplldnihalaaAt
import Derived.Test.YtkpnplldnihalaaCi3
import Derived.Test.YtkpnplldnihalaaDt2
namespace Go.Proofs.Ytkpnplldnihalaa
open Go.RowKit
set_option linter.unusedSimpArgs false
set_option linter.unusedVariables false
set_option maxRecDepth 20000

/-- Two things need different numbers: vertices that are joined, an edge and its ends, edges that are near. -/
def totalAre (N : Nat) (es : List (Int × Int)) (i k : Nat) : Bool :=
  if i < N then joinB es i k else if k < N then onB (es.getD (i - N) (0, 0)) k else nearB (es.getD (i - N) (0, 0)) (es.getD (k - N) (0, 0))

set_option maxHeartbeats 2000000 in
theorem total1_b (h N : Nat) (A : Option Addr) (c : Nat) (es : List (Int × Int)) (i k : Nat) (w : World) (q : Bool) (hq : Hid (totalAre N es i k = q)) (hki : k < i) (hi : i < N + es.length) (hN : N ≤ 1000) (hl : es.length ≤ 100000) (hin : InN N es) (hr : RdE w A es)
    (h0 : h < w.heap.size) (hc0 : w.cell? ⟨h, 0, none⟩ = some (.int .i64 N)) (hc1 : w.cell? ⟨h, 1, none⟩ = some (.slice A es.length c)) :
    Calls Try.prog 112 #[.int .i64 i, .int .i64 k, .pointer (some ⟨h, 0, none⟩)] w fun e w' => e = .returned (.bool q) ∧ Below w.heap.size w w' := by
  by_cases h1 : i < N
  · have Hj : Hid (decide (0 < joinN es i k) = q) := by show _ = _; rw [joinN_pos, ← hq.out, totalAre, if_pos h1]
    have cj := joins_b N A c es N i k w hl hN hin (by omega) hr
    obtain ⟨m, Hm⟩ : ∃ m, Hid (joinN es i k = m) := ⟨_, rfl⟩
    rw [Hm.out] at cj Hj
    clear hq hr hin
    generalize es.length = L at *
    go_enter Try.func112, Try.ntmps112
    go_wp2_with fail
    refine cj.mono ?_
    rintro e w1 ⟨rfl, hb1⟩
    go_wp2
    go_ret
    exact ⟨by rw [Hj.out]; rfl, hb1⟩
  · obtain ⟨b, off, rfl, hb, hc⟩ := hr.pos (by omega)
    obtain ⟨j, rfl⟩ : ∃ j, i = N + j := ⟨i - N, by omega⟩
    have hjL : j < es.length := by omega
    have hwj : wrap64 (((N + j : Nat) : Int) - N) = (j : Int) := by rw [wrap64_small (by omega) (by omega)]; omega
    have e1 : N + j - N = j := by omega
    obtain ⟨iI, HiI⟩ : ∃ iI : Int, Hid (((N + j : Nat) : Int) = iI) := ⟨_, rfl⟩
    have n1 : ¬ (iI < (N : Int)) := by have := HiI.out; omega
    rw [HiI.out] at hwj ⊢
    by_cases h2 : k < N
    · obtain ⟨hcj0, hcj1⟩ := hc j hjL
      have Hq : Hid (onB (es.getD j (0, 0)) k = q) := by show _ = _; rw [← hq.out, totalAre, if_neg h1, if_pos h2, e1]
      obtain ⟨⟨x, y⟩, Hxy⟩ : ∃ x, Hid (es.getD j (0, 0) = x) := ⟨_, rfl⟩
      rw [Hxy.out] at hcj0 hcj1 Hq
      dsimp only at hcj0 hcj1
      have co := fun W => isOn_b x y k W q Hq
      have n2 : (k : Int) < N := by omega
      obtain ⟨ej, ej2, ej3⟩ := idxF j _ hjL
      clear hc hr hq hin hki hi HiI e1 Hxy Hq
      generalize es.length = L at *
      go_enter Try.func112, Try.ntmps112
      go_wp2_with fail
      refine (co _).mono ?_
      rintro e w1 ⟨rfl, hb1⟩
      clear hwj
      go_wp2
      go_ret
      exact ⟨rfl, hb1⟩
    · obtain ⟨l, rfl⟩ : ∃ l, k = N + l := ⟨k - N, by omega⟩
      have e2 : N + l - N = l := by omega
      have hwl : wrap64 (((N + l : Nat) : Int) - N) = (l : Int) := by rw [wrap64_small (by omega) (by omega)]; omega
      have Hq : Hid (nearB (es.getD j (0, 0)) (es.getD l (0, 0)) = q) := by show _ = _; rw [← hq.out, totalAre, if_neg h1, if_neg h2, e1, e2]
      have cn := fun W (hW : Below w.heap.size w W) => isNear_b N (some ⟨b, off, none⟩) c es j l W q Hq hjL (by omega) (by omega) (hr.below hW)
      obtain ⟨kI, HkI⟩ : ∃ kI : Int, Hid (((N + l : Nat) : Int) = kI) := ⟨_, rfl⟩
      have n2 : ¬ (kI < (N : Int)) := by have := HkI.out; omega
      rw [HkI.out] at hwl ⊢
      clear hc hr hq hin hki hi HiI HkI e1 e2 Hq h2
      generalize es.length = L at *
      go_enter Try.func112, Try.ntmps112
      go_wp2_with fail
      refine (cn _ (Below.refl _ _)).mono ?_
      rintro e w1 ⟨rfl, hb1⟩
      clear hwj hwl
      go_wp2
      go_ret
      exact ⟨rfl, hb1⟩
theorem ent_total1 : Ent 112 := enters_of Try.func112 (by kernel_rfl) rfl

set_option maxHeartbeats 2000000 in
theorem totalThings_b (N T : Nat) (A : Option Addr) (c : Nat) (es : List (Int × Int)) (w : World) (hT : Hid (N + es.length = T)) (hN : N ≤ 1000) (hl : es.length ≤ 10000) (hin : InN N es) (hr : RdE w A es) :
    Calls Try.prog 78 #[.agg #[.int .i64 N, .slice A es.length c]] w fun e w' => ∃ g, e = .returned (.slice (some ⟨g, 0, none⟩) T T) ∧ RdL w' (some ⟨g, 0, none⟩) (nbrs (totalAre N es) T) ∧ Below w.heap.size w w' := by
  have hmf : ∀ (fn : Fn) (first cap : Array Value) (w : World), (Instr.makeFunc fn first cap).run Try.prog w = .ok (.func fn first cap) w := fun _ _ _ _ => rfl
  have cn := fun W (hW : Below w.heap.size w W) (h0 : w.heap.size < W.heap.size) (hc0 : W.cell? ⟨w.heap.size, 0, none⟩ = some (.int .i64 N)) (hc1 : W.cell? ⟨w.heap.size, 1, none⟩ = some (.slice A es.length c)) =>
    neighbours_b T 112 #[] #[.pointer (some ⟨w.heap.size, 0, none⟩)] (totalAre N es) W (by have := hT.out; omega) ent_total1
    (fun W' i k hk hi hW' => total1_b w.heap.size N A c es i k W' _ rfl hk (by have := hT.out; omega) hN (by omega) hin ((hr.below hW).below hW') (by have := hW'.size; omega) (((bcell hW').1 _ _ h0).trans hc0) (((bcell hW').1 _ _ h0).trans hc1))
  have wT : Hid (IntKind.i64.wrap ((N : Int) + (es.length : Int)) = (T : Int)) := by show _ = _; rw [← hT.out]; exact wrapK _ _ (by omega)
  clear hr hin hT
  generalize nbrs (totalAre N es) T = X at *
  generalize es.length = L at *
  go_enter Try.func78, Try.ntmps78
  go_wp2
  have wT2 := wT.out
  refine wp_region_noPanic ?_
  refine wp_region_held_drew (S := (fun w' => w'.cell? ⟨w.heap.size, 0, none⟩ = some (.int .i64 N) ∧ w'.cell? ⟨w.heap.size, 1, none⟩ = some (.slice A L c))) (by kernel_rfl) ?_ (fun hHeld => ?_)
  · (try dsimp only); (first | go_keep | (obtain ⟨hq, _⟩ := bcell ‹Below _ _ _›; (repeat' apply And.intro) <;> (rw [hq _ _ (by first | assumption | omega | (simp; done) | (simp; omega) | (simp; assumption))] <;> (first | assumption | (simp [*]; done)))))
  refine wpAnyH_take_d (i := 0) (d := some 3) (v := ?v1) rfl rfl (by kernel_rfl) (by kernel_rfl) (by kernel_rfl) (fun _ _ _ h => h) (Or.inl ⟨by kernel_rfl, ?y1⟩) (by assumption) ?_
  case y1 => (intro w' hSw; (try dsimp only at hSw); go_simp; try with_reducible rfl)
  try simp only [Act.put, List.setIfInBounds_toArray, List.set_cons_zero, List.set_cons_succ]
  refine wpAnyH_take_d (i := 1) (d := some 4) (v := ?v2) rfl rfl (by kernel_rfl) (by kernel_rfl) (by kernel_rfl) (fun _ _ _ h => h) (Or.inl ⟨by kernel_rfl, ?y2⟩) (by assumption) ?_
  case y2 => (intro w' hSw; (try dsimp only at hSw); go_simp; try with_reducible rfl)
  try simp only [Act.put, List.setIfInBounds_toArray, List.set_cons_zero, List.set_cons_succ]
  refine wpAnyH_take_d (i := 2) (d := some 5) (v := ?v3) rfl rfl (by kernel_rfl) (by kernel_rfl) (by kernel_rfl) (fun _ _ _ h => h) (Or.inl ⟨by kernel_rfl, ?y3⟩) (by assumption) ?_
  case y3 => (intro w' hSw; (try dsimp only at hSw); go_simp; try with_reducible rfl)
  try simp only [Act.put, List.setIfInBounds_toArray, List.set_cons_zero, List.set_cons_succ]
  refine wpAnyH_take_d (i := 3) (d := some 6) (v := ?v4) rfl rfl (by kernel_rfl) (by kernel_rfl) (by kernel_rfl) (fun _ _ _ h => h) (Or.inl ⟨by kernel_rfl, ?y4⟩) (by assumption) ?_
  case y4 => (intro w' hSw; (try dsimp only at hSw); go_simp; try with_reducible rfl)
  try simp only [Act.put, List.setIfInBounds_toArray, List.set_cons_zero, List.set_cons_succ]
  refine wpAnyH_take_d (i := 6) (d := some 9) (v := ?v5) rfl rfl (by kernel_rfl) (by kernel_rfl) (by kernel_rfl) (fun _ _ _ h => h) (Or.inl ⟨by kernel_rfl, ?y5⟩) (by assumption) ?_
  case y5 => (intro w' hSw; (try dsimp only at hSw); go_simp; try with_reducible rfl)
  try simp only [Act.put, List.setIfInBounds_toArray, List.set_cons_zero, List.set_cons_succ]
  refine wpAnyH_ready (rs := [4]) (by kernel_rfl) (by simp) ?_
  refine AllReadyH.cons rfl (fun K hK => ?_) AllReadyH.nil
  go_simp
  refine (lengthE_any _ _ _ _).mono ?_; rintro e w1 ⟨rfl, rfl⟩
  refine hK.out _ _ ?s6 (fun hHeld6 => ?_)
  case s6 => ((try dsimp only); (first | go_keep | (obtain ⟨hq, _⟩ := bcell ‹Below _ _ _›; (repeat' apply And.intro) <;> (rw [hq _ _ (by first | assumption | omega | (simp; done) | (simp; omega) | (simp; assumption))] <;> (first | assumption | (simp [*]; done))))))
  clear hK K hHeld
  have hHeld := hHeld6; clear hHeld6
  try simp only [Act.put, List.setIfInBounds_toArray, List.set_cons_zero, List.set_cons_succ]
  refine wpAnyH_take_d (i := 5) (d := some 8) (v := ?v7) rfl rfl (by kernel_rfl) (by kernel_rfl) (by kernel_rfl) (fun _ _ _ h => h) (Or.inl ⟨by kernel_rfl, ?y7⟩) (by assumption) ?_
  case y7 => (intro w' hSw; (try dsimp only at hSw); go_simp; try with_reducible rfl)
  try simp only [Act.put, List.setIfInBounds_toArray, List.set_cons_zero, List.set_cons_succ]
  refine wpAnyH_ready (rs := [7]) (by kernel_rfl) (by simp) ?_
  refine AllReadyH.cons rfl (fun K hK => ?_) AllReadyH.nil
  go_simp
  have hA := hHeld.1; have hB := hHeld.2; refine (cn _ (by (repeat' (first | (with_reducible exact Below.refl _ _) | (with_reducible assumption) | (with_reducible refine Below.alloc ?_ ?_ _) | (with_reducible refine Below.drew ?_) | (with_reducible refine below_drewN ?_ _) | (with_reducible refine Below.setCell ?_ ?_ _) | (with_reducible refine Below.trans ?_ (Below.mono (by assumption) ?_)) | (first | omega | (simp only [World.size_alloc, World.size_setCell, World.size_drew]; omega) | (simp; omega) | (simp; done))))) (by (first | omega | (simp only [World.size_alloc, World.size_setCell, World.size_drew]; omega) | (simp; omega) | (simp; done))) hA hB).mono ?_; rintro e w2 ⟨rfl, hX, hb2⟩
  refine hK.out _ _ ?s8 (fun hHeld8 => ?_)
  case s8 => ((try dsimp only); (first | go_keep | (obtain ⟨hq, _⟩ := bcell ‹Below _ _ _›; (repeat' apply And.intro) <;> (rw [hq _ _ (by first | assumption | omega | (simp; done) | (simp; omega) | (simp; assumption))] <;> (first | assumption | (simp [*]; done))))))
  clear hK K hHeld
  have hHeld := hHeld8; clear hHeld8
  try simp only [Act.put, List.setIfInBounds_toArray, List.set_cons_zero, List.set_cons_succ]
  refine wpAnyH_take_d (i := 8) (d := some 2) (v := ?v9) rfl rfl (by kernel_rfl) (by kernel_rfl) (by kernel_rfl) (fun _ _ _ h => h) (Or.inl ⟨by kernel_rfl, ?y9⟩) (by assumption) ?_
  case y9 => (intro w' hSw; (try dsimp only at hSw); go_simp; try with_reducible rfl)
  try simp only [Act.put, List.setIfInBounds_toArray, List.set_cons_zero, List.set_cons_succ]
  refine wpAnyH_done (by kernel_rfl) ?_ _
  refine NoPanic.normal ?_
  go_wp2
  go_ret
  (try simp only [World.size_alloc, World.size_setCell, World.size_drew] at hX)
  exact ⟨_, rfl, hX, by (repeat' (first | (with_reducible exact Below.refl _ _) | (with_reducible assumption) | (with_reducible refine Below.alloc ?_ ?_ _) | (with_reducible refine Below.drew ?_) | (with_reducible refine below_drewN ?_ _) | (with_reducible refine Below.setCell ?_ ?_ _) | (with_reducible refine Below.trans ?_ (Below.mono (by assumption) ?_)) | (first | omega | (simp only [World.size_alloc, World.size_setCell, World.size_drew]; omega) | (simp; omega) | (simp; done))))⟩
end Go.Proofs.Ytkpnplldnihalaa
