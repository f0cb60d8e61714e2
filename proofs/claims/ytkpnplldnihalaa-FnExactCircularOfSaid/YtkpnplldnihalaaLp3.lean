/- The program's leastProper. -/
import Derived.Test.YtkpnplldnihalaaLp2
import Derived.Laws.EntriesVeiled
namespace Go.Proofs.Ytkpnplldnihalaa
open Go.RowKit
set_option linter.unusedSimpArgs false
set_option linter.unusedVariables false
set_option maxRecDepth 20000

theorem env_init (w : World) (T cn gb : Nat) (k : Int) (An : Option Addr) (lb : Array Value) (free : Bool) (t0 t1 t2 t3 t4 t5 t6 : TypeId) (cs : Array Value) :
    EnvL ((((((((w.alloc (.cells #[.int .i64 k] t0)).alloc (.cells #[.slice An T cn] t1)).alloc (.cells #[.func (.func gb) #[] lb] t2)).alloc (.cells #[.bool free] t3)).alloc (.cells cs t4)).alloc (.cells #[.slice (some ⟨w.heap.size + 4, 0, none⟩) T T] t5)).alloc (.cells #[.func (.func 117) #[] #[.pointer (some ⟨w.heap.size + 5, 0, none⟩), .pointer (some ⟨w.heap.size, 0, none⟩), .pointer (some ⟨w.heap.size + 3, 0, none⟩), .pointer (some ⟨w.heap.size + 1, 0, none⟩), .pointer (some ⟨w.heap.size + 2, 0, none⟩), .pointer (some ⟨w.heap.size + 6, 0, none⟩)]] t6)).drew) w.heap.size T k An cn gb lb free where
  lt := by simp [World.drew]
  k0 := (((((((Blk.new w _ _).alloc _).alloc _).alloc _).alloc _).alloc _).alloc _).cellAt 0 _ rfl
  k1 := ((((((Blk.new' (n := w.heap.size + 1) _ (by simp)).alloc _).alloc _).alloc _).alloc _).alloc _).cellAt 0 _ rfl
  k2 := (((((Blk.new' (n := w.heap.size + 2) _ (by simp)).alloc _).alloc _).alloc _).alloc _).cellAt 0 _ rfl
  k3 := ((((Blk.new' (n := w.heap.size + 3) _ (by simp)).alloc _).alloc _).alloc _).cellAt 0 _ rfl
  k5 := ((Blk.new' (n := w.heap.size + 5) _ (by simp)).alloc _).cellAt 0 _ rfl
  k6 := (Blk.new' (n := w.heap.size + 6) _ (by simp)).cellAt 0 _ rfl

set_option maxHeartbeats 4000000 in
theorem leastProper_b (T cn gb : Nat) (k : Int) (An : Option Addr) (lb : Array Value) (free : Bool) (are : Nat → Nat → Bool) (bad : Int → Int → Bool) (w : World)
    (hk : 1 ≤ k ∧ k ≤ 1000) (hT : T ≤ 1000) (hnear : RdL w An (nbrs are T)) (eg : Ent gb) (hbad : PredB gb lb bad (fun x => inB x 0 (k - 1) = true) w) (o : Option (List Int)) (Ho : Hid (fillO are bad (candL free k) T [] = o)) :
    Calls Try.prog 84 #[.int .i64 k, .slice An T cn, .func (.func gb) #[] lb, .bool free] w fun e w' => e = .returned (.tuple #[.slice (some ⟨w.heap.size + 4, 0, none⟩) T T, .bool o.isSome]) ∧ Below w.heap.size w w' ∧ ∃ ys', Blk w' (w.heap.size + 4) 2 (cI ys').toArray ∧ ys'.length = T ∧ ∀ xs, o = some xs → ys' = xs := by
  have hmf : ∀ (fn : Fn) (first cap : Array Value) (w : World), (Instr.makeFunc fn first cap).run Try.prog w = .ok (.func fn first cap) w := fun _ _ _ _ => rfl
  have hmk := mk_row Try.underlying36 infoI T (by omega) (by omega)
  simp only [made_int] at hmk
  have hnear2 : Hid (∀ W, Below w.heap.size w W → RdL W An (nbrs are T)) := fun W hW => hnear.below hW
  have gr := fun (W : World) (henv : Hid (EnvL W w.heap.size T k An cn gb lb free)) (hblk : Hid (Blk W (w.heap.size + 4) 2 (cI (List.replicate T 0)).toArray)) (hW : Hid (Below w.heap.size w W)) =>
    growL_b w.heap.size T cn gb k An lb free are bad w w.heap.size rfl (Nat.le_refl _) hk hT hnear2 eg hbad T 0 [] (List.replicate T 0) W (by omega) rfl (by simp) rfl (fun j hj => by omega) henv hblk hW
  simp only [Ho.out, show mostL [] = -1 from rfl] at gr
  have Gr := Lib.hid gr
  clear gr hnear2 hnear hbad Ho eg
  go_enter Try.func84, Try.ntmps84
  go_wp2
  refine wp_region_noPanic ?_
  refine wp_region_held_drew (S := (fun w' => w'.cell? ⟨w.heap.size + 1 + 1 + 1 + 1 + 1, 0, none⟩ = some (.slice (some ⟨w.heap.size + 1 + 1 + 1 + 1, 0, none⟩) T T) ∧ w'.cell? ⟨w.heap.size + 1 + 1 + 1 + 1 + 1 + 1, 0, none⟩ = some (.func (.func 117) #[] #[.pointer (some ⟨w.heap.size + 1 + 1 + 1 + 1 + 1, 0, none⟩), .pointer (some ⟨w.heap.size, 0, none⟩), .pointer (some ⟨w.heap.size + 1 + 1 + 1, 0, none⟩), .pointer (some ⟨w.heap.size + 1, 0, none⟩), .pointer (some ⟨w.heap.size + 1 + 1, 0, none⟩), .pointer (some ⟨w.heap.size + 1 + 1 + 1 + 1 + 1 + 1, 0, none⟩)]))) (by kernel_rfl) ?_ (fun hHeld => ?_)
  · (try dsimp only); (first | exact ⟨hq5, hq6⟩ | exact ⟨(env_init _ _ _ _ _ _ _ _ _ _ _ _ _ _ _ _).k5, (env_init _ _ _ _ _ _ _ _ _ _ _ _ _ _ _ _).k6⟩)
  refine wpAnyH_take_d (i := 0) (d := some 16) (v := ?v1) rfl rfl (by kernel_rfl) (by kernel_rfl) (by kernel_rfl) (fun _ _ _ h => h) (Or.inl ⟨by kernel_rfl, ?y1⟩) (by assumption) ?_
  case y1 => (intro w' hSw; (try dsimp only at hSw); go_simp; try with_reducible rfl)
  try simp only [Act.put, List.setIfInBounds_toArray, List.set_cons_zero, List.set_cons_succ]
  refine wpAnyH_take_d (i := 1) (d := some 17) (v := ?v2) rfl rfl (by kernel_rfl) (by kernel_rfl) (by kernel_rfl) (fun _ _ _ h => h) (Or.inl ⟨by kernel_rfl, ?y2⟩) (by assumption) ?_
  case y2 => (intro w' hSw; (try dsimp only at hSw); go_simp; try with_reducible rfl)
  try simp only [Act.put, List.setIfInBounds_toArray, List.set_cons_zero, List.set_cons_succ]
  refine wpAnyH_ready (rs := [2]) (by kernel_rfl) (by simp) ?_
  refine AllReadyH.cons rfl (fun K hK => ?_) AllReadyH.nil
  go_simp
  refine (Gr.out _ (env_init _ _ _ _ _ _ _ _ _ _ _ _ _ _ _ _) (by exact (((Blk.new' (n := w.heap.size + 4) _ (by simp)).alloc _).alloc _).drew) (by show Below _ _ _; (repeat' (first | (with_reducible exact Below.refl _ _) | (with_reducible assumption) | (with_reducible refine Below.alloc ?_ ?_ _) | (with_reducible refine Below.drew ?_) | (with_reducible refine below_drewN ?_ _) | (with_reducible refine Below.setCell ?_ ?_ _) | (with_reducible refine Below.trans ?_ (Below.mono (by assumption) ?_)) | (first | omega | (simp only [World.size_alloc, World.size_setCell, World.size_drew]; omega) | (simp; omega) | (simp; done)))))).mono ?_; rintro e w2 ⟨rfl, hs2, hb2, ys, hQ, hl, _, hfin⟩; have henv2 := (env_init _ _ _ _ _ _ _ _ _ _ _ _ _ _ _ _).keep hs2; have hq5 := henv2.k5; have hq6 := henv2.k6
  refine hK.out _ _ ?s3 (fun hHeld3 => ?_)
  case s3 => ((try dsimp only); (first | exact ⟨hq5, hq6⟩ | exact ⟨(env_init _ _ _ _ _ _ _ _ _ _ _ _ _ _ _ _).k5, (env_init _ _ _ _ _ _ _ _ _ _ _ _ _ _ _ _).k6⟩))
  clear hK K hHeld
  have hHeld := hHeld3; clear hHeld3
  try simp only [Act.put, List.setIfInBounds_toArray, List.set_cons_zero, List.set_cons_succ]
  refine wpAnyH_take_d (i := 3) (d := some 8) (v := ?v4) rfl rfl (by kernel_rfl) (by kernel_rfl) (by kernel_rfl) (fun _ _ _ h => h) (Or.inl ⟨by kernel_rfl, ?y4⟩) (by assumption) ?_
  case y4 => (intro w' hSw; (try dsimp only at hSw); go_simp; try with_reducible rfl)
  try simp only [Act.put, List.setIfInBounds_toArray, List.set_cons_zero, List.set_cons_succ]
  refine wpAnyH_take_d (i := 4) (d := some 9) (v := ?v5) rfl rfl (by kernel_rfl) (by kernel_rfl) (by kernel_rfl) (fun _ _ _ h => h) (Or.inl ⟨by kernel_rfl, ?y5⟩) (by assumption) ?_
  case y5 => (intro w' hSw; (try dsimp only at hSw); go_simp; try with_reducible rfl)
  try simp only [Act.put, List.setIfInBounds_toArray, List.set_cons_zero, List.set_cons_succ]
  refine wpAnyH_done (by kernel_rfl) ?_ _
  refine NoPanic.normal ?_
  go_wp2
  go_ret2
  refine ⟨rfl, Below.trans ?_ hb2, ys, hQ, hl, hfin⟩
  (repeat' (first | (with_reducible exact Below.refl _ _) | (with_reducible assumption) | (with_reducible refine Below.alloc ?_ ?_ _) | (with_reducible refine Below.drew ?_) | (with_reducible refine below_drewN ?_ _) | (with_reducible refine Below.setCell ?_ ?_ _) | (with_reducible refine Below.trans ?_ (Below.mono (by assumption) ?_)) | (first | omega | (simp only [World.size_alloc, World.size_setCell, World.size_drew]; omega) | (simp; omega) | (simp; done))))
end Go.Proofs.Ytkpnplldnihalaa
