/- nearEdges; isProper. -/
import Derived.Test.YtkpnplldnihalaaCi2
namespace Go.Proofs.Ytkpnplldnihalaa
open Go.RowKit
set_option linter.unusedSimpArgs false
set_option linter.unusedVariables false
set_option maxRecDepth 20000

/-- Edges by their numbers are near. -/
def nearAre (es : List (Int × Int)) (i k : Nat) : Bool := nearB (es.getD i (0, 0)) (es.getD k (0, 0))
theorem ent_isNear : Ent 115 := enters_of Try.func115 (by kernel_rfl) rfl

set_option maxHeartbeats 1000000 in
theorem nearEdges_b (n : Int) (A : Option Addr) (c : Nat) (es : List (Int × Int)) (w : World) (hl : es.length ≤ 100000) (hr : RdE w A es) :
    Calls Try.prog 85 #[.agg #[.int .i64 n, .slice A es.length c]] w fun e w' => ∃ g, e = .returned (.slice (some ⟨g, 0, none⟩) es.length es.length) ∧ RdL w' (some ⟨g, 0, none⟩) (nbrs (nearAre es) es.length) ∧ Below w.heap.size w w' := by
  have hmf : ∀ (fn : Fn) (first cap : Array Value) (w : World), (Instr.makeFunc fn first cap).run Try.prog w = .ok (.func fn first cap) w := fun _ _ _ _ => rfl
  have cn := fun W (hW : Below w.heap.size w W) => neighbours_b es.length 115 #[.agg #[.int .i64 n, .slice A es.length c]] #[] (nearAre es) W hl ent_isNear
    (fun W' i k hk hi hW' => isNear_b n A c es i k W' _ rfl hi (by omega) (by omega) ((hr.below hW).below hW'))
  have hx := nbrs_len (nearAre es) es.length
  clear hx hr
  generalize nbrs (nearAre es) es.length = X at *
  generalize es.length = L at *
  go_enter Try.func85, Try.ntmps85
  go_wp2
  refine wp_region_noPanic ?_
  refine wp_region_held_drew (S := (fun w' => w'.cell? ⟨w.heap.size, 0, none⟩ = some (.int .i64 n) ∧ w'.cell? ⟨w.heap.size, 1, none⟩ = some (.slice A L c))) (by kernel_rfl) ?_ (fun hHeld => ?_)
  · (try dsimp only); (first | go_keep | (obtain ⟨hq, _⟩ := bcell ‹Below _ _ _›; (repeat' apply And.intro) <;> (rw [hq _ _ (by first | assumption | omega | (simp; done) | (simp; omega) | (simp; assumption))] <;> (first | assumption | (simp [*]; done)))))
  refine wpAnyH_take_d (i := 0) (d := some 3) (v := ?v1) rfl rfl (by kernel_rfl) (by kernel_rfl) (by kernel_rfl) (fun _ _ _ h => h) (Or.inl ⟨by kernel_rfl, ?y1⟩) (by assumption) ?_
  case y1 => (intro w' hSw; (try dsimp only at hSw); go_simp; try with_reducible rfl)
  try simp only [Act.put, List.setIfInBounds_toArray, List.set_cons_zero, List.set_cons_succ]
  refine wpAnyH_take_d (i := 1) (d := some 4) (v := ?v2) rfl rfl (by kernel_rfl) (by kernel_rfl) (by kernel_rfl) (fun _ _ _ h => h) (Or.inl ⟨by kernel_rfl, ?y2⟩) (by assumption) ?_
  case y2 => (intro w' hSw; (try dsimp only at hSw); go_simp; try with_reducible rfl)
  try simp only [Act.put, List.setIfInBounds_toArray, List.set_cons_zero, List.set_cons_succ]
  refine wpAnyH_take_d (i := 3) (d := some 6) (v := ?v3) rfl rfl (by kernel_rfl) (by kernel_rfl) (by kernel_rfl) (fun _ _ _ h => h) (Or.inl ⟨by kernel_rfl, ?y3⟩) (by assumption) ?_
  case y3 => (intro w' hSw; (try dsimp only at hSw); go_simp; try with_reducible rfl)
  try simp only [Act.put, List.setIfInBounds_toArray, List.set_cons_zero, List.set_cons_succ]
  refine wpAnyH_take_d (i := 4) (d := some 7) (v := ?v4) rfl rfl (by kernel_rfl) (by kernel_rfl) (by kernel_rfl) (fun _ _ _ h => h) (Or.inl ⟨by kernel_rfl, ?y4⟩) (by assumption) ?_
  case y4 => (intro w' hSw; (try dsimp only at hSw); go_simp; try with_reducible rfl)
  try simp only [Act.put, List.setIfInBounds_toArray, List.set_cons_zero, List.set_cons_succ]
  refine wpAnyH_ready (rs := [2]) (by kernel_rfl) (by simp) ?_
  refine AllReadyH.cons rfl (fun K hK => ?_) AllReadyH.nil
  go_simp
  refine (lengthE_any _ _ _ _).mono ?_; rintro e w1 ⟨rfl, rfl⟩
  refine hK.out _ _ ?s5 (fun hHeld5 => ?_)
  case s5 => ((try dsimp only); (first | go_keep | (obtain ⟨hq, _⟩ := bcell ‹Below _ _ _›; (repeat' apply And.intro) <;> (rw [hq _ _ (by first | assumption | omega | (simp; done) | (simp; omega) | (simp; assumption))] <;> (first | assumption | (simp [*]; done))))))
  clear hK K hHeld
  have hHeld := hHeld5; clear hHeld5
  try simp only [Act.put, List.setIfInBounds_toArray, List.set_cons_zero, List.set_cons_succ]
  refine wpAnyH_ready (rs := [5]) (by kernel_rfl) (by simp) ?_
  refine AllReadyH.cons rfl (fun K hK => ?_) AllReadyH.nil
  go_simp
  refine (cn _ (by (repeat' (first | (with_reducible exact Below.refl _ _) | (with_reducible assumption) | (with_reducible refine Below.alloc ?_ ?_ _) | (with_reducible refine Below.drew ?_) | (with_reducible refine below_drewN ?_ _) | (with_reducible refine Below.setCell ?_ ?_ _) | (with_reducible refine Below.trans ?_ (Below.mono (by assumption) ?_)) | (first | omega | (simp only [World.size_alloc, World.size_setCell, World.size_drew]; omega) | (simp; omega) | (simp; done)))))).mono ?_; rintro e w2 ⟨rfl, hX, hb2⟩
  refine hK.out _ _ ?s6 (fun hHeld6 => ?_)
  case s6 => ((try dsimp only); (first | go_keep | (obtain ⟨hq, _⟩ := bcell ‹Below _ _ _›; (repeat' apply And.intro) <;> (rw [hq _ _ (by first | assumption | omega | (simp; done) | (simp; omega) | (simp; assumption))] <;> (first | assumption | (simp [*]; done))))))
  clear hK K hHeld
  have hHeld := hHeld6; clear hHeld6
  try simp only [Act.put, List.setIfInBounds_toArray, List.set_cons_zero, List.set_cons_succ]
  refine wpAnyH_take_d (i := 6) (d := some 2) (v := ?v7) rfl rfl (by kernel_rfl) (by kernel_rfl) (by kernel_rfl) (fun _ _ _ h => h) (Or.inl ⟨by kernel_rfl, ?y7⟩) (by assumption) ?_
  case y7 => (intro w' hSw; (try dsimp only at hSw); go_simp; try with_reducible rfl)
  try simp only [Act.put, List.setIfInBounds_toArray, List.set_cons_zero, List.set_cons_succ]
  refine wpAnyH_done (by kernel_rfl) ?_ _
  refine NoPanic.normal ?_
  go_wp2
  go_ret
  simp only [World.size_alloc, World.size_setCell, World.size_drew] at hX
  exact ⟨_, rfl, hX, by (repeat' (first | (with_reducible exact Below.refl _ _) | (with_reducible assumption) | (with_reducible refine Below.alloc ?_ ?_ _) | (with_reducible refine Below.drew ?_) | (with_reducible refine below_drewN ?_ _) | (with_reducible refine Below.setCell ?_ ?_ _) | (with_reducible refine Below.trans ?_ (Below.mono (by assumption) ?_)) | (first | omega | (simp only [World.size_alloc, World.size_setCell, World.size_drew]; omega) | (simp; omega) | (simp; done))))⟩

/-- A clash that comes as a function value: of numbers that fulfil K. -/
def PredB (g : Nat) (lb : Array Value) (bad : Int → Int → Bool) (K : Int → Prop) (w : World) : Prop :=
  ∀ (W : World) (x y : Int), K x → K y → Below w.heap.size w W → Calls Try.prog g (#[.int .i64 x, .int .i64 y] ++ lb) W fun e w' => e = .returned (.bool (bad x y)) ∧ Below W.heap.size W w'
theorem PredB.below {g : Nat} {lb : Array Value} {bad : Int → Int → Bool} {K : Int → Prop} {w w1 : World} (h : PredB g lb bad K w) (hb : Below w.heap.size w w1) : PredB g lb bad K w1 :=
  fun W x y hx hy hW => h W x y hx hy (hb.trans (hW.mono hb.size))

theorem ent_isProper1 : Ent 110 := enters_of Try.func110 (by kernel_rfl) rfl
set_option maxHeartbeats 1000000 in
theorem isProper1_b (gb gx gl : Nat) (g : Nat) (lb : Array Value) (x : Int) (A : Option Addr) (c : Nat) (xs : List Int) (m n : Nat) (w : World) (q : Bool) (Hm : Hid (xs.length = m)) (hl : m ≤ 1048576) (hn : n < m) (hr : RdI w A xs) (eg0 : Ent g)
    (h0 : gb < w.heap.size) (h1 : gx < w.heap.size) (h2 : gl < w.heap.size)
    (hc0 : w.cell? ⟨gb, 0, none⟩ = some (.func (.func g) #[] lb)) (hc1 : w.cell? ⟨gx, 0, none⟩ = some (.int .i64 x)) (hc2 : w.cell? ⟨gl, 0, none⟩ = some (.slice A m c))
    (hp : ∀ W, Below w.heap.size w W → Calls Try.prog g (#[.int .i64 x, .int .i64 (xs.getD n 0)] ++ lb) W fun e w' => e = .returned (.bool q) ∧ Below W.heap.size W w') :
    Calls Try.prog 110 #[.int .i64 n, .pointer (some ⟨gb, 0, none⟩), .pointer (some ⟨gx, 0, none⟩), .pointer (some ⟨gl, 0, none⟩)] w fun e w' => e = .returned (.bool q) ∧ Below w.heap.size w w' := by
  have eg := eg0
  unfold Ent at eg
  clear eg0
  obtain ⟨b, off, rfl, hb, hc⟩ := hr.pos (by have := Hm.out; omega)
  have hcn := hc n (by have := Hm.out; omega)
  obtain ⟨y, Hy⟩ : ∃ y, Hid (xs.getD n 0 = y) := ⟨_, rfl⟩
  rw [Hy.out] at hcn hp
  clear hc hr
  have n0 : (0 : Int) ≤ n := by omega
  have n1 : (n : Int) < m := by omega
  have n2 : (n : Int).toNat = n := by omega
  go_enter Try.func110, Try.ntmps110
  go_wp2
  refine wp_region_noPanic ?_
  refine wp_region_held_drew (S := (fun w' => w'.cell? ⟨gb, 0, none⟩ = some (.func (.func g) #[] lb) ∧ w'.cell? ⟨gx, 0, none⟩ = some (.int .i64 x) ∧ w'.cell? ⟨gl, 0, none⟩ = some (.slice (some ⟨b, off, none⟩) m c) ∧ w'.cell? ⟨b, off + n, none⟩ = some (.int .i64 y))) (by kernel_rfl) ?_ (fun hHeld => ?_)
  · (try dsimp only); (first | go_keep | (obtain ⟨hq, _⟩ := bcell ‹Below _ _ _›; (repeat' apply And.intro) <;> (rw [hq _ _ (by first | assumption | omega | (simp; done) | (simp; omega) | (simp; assumption))] <;> (first | assumption | (simp [*]; done)))))
  refine wpAnyH_take_d (i := 0) (d := some 6) (v := ?v8) rfl rfl (by kernel_rfl) (by kernel_rfl) (by kernel_rfl) (fun _ _ _ h => h) (Or.inl ⟨by kernel_rfl, ?y8⟩) (by assumption) ?_
  case y8 => (intro w' hSw; (try dsimp only at hSw); go_simp; try with_reducible rfl)
  try simp only [Act.put, List.setIfInBounds_toArray, List.set_cons_zero, List.set_cons_succ]
  refine wpAnyH_take_d (i := 1) (d := some 7) (v := ?v9) rfl rfl (by kernel_rfl) (by kernel_rfl) (by kernel_rfl) (fun _ _ _ h => h) (Or.inl ⟨by kernel_rfl, ?y9⟩) (by assumption) ?_
  case y9 => (intro w' hSw; (try dsimp only at hSw); go_simp; try with_reducible rfl)
  try simp only [Act.put, List.setIfInBounds_toArray, List.set_cons_zero, List.set_cons_succ]
  refine wpAnyH_take_d (i := 2) (d := some 8) (v := ?v10) rfl rfl (by kernel_rfl) (by kernel_rfl) (by kernel_rfl) (fun _ _ _ h => h) (Or.inl ⟨by kernel_rfl, ?y10⟩) (by assumption) ?_
  case y10 => (intro w' hSw; (try dsimp only at hSw); go_simp; try with_reducible rfl)
  try simp only [Act.put, List.setIfInBounds_toArray, List.set_cons_zero, List.set_cons_succ]
  refine wpAnyH_take_d (i := 3) (d := some 9) (v := ?v11) rfl rfl (by kernel_rfl) (by kernel_rfl) (by kernel_rfl) (fun _ _ _ h => h) (Or.inl ⟨by kernel_rfl, ?y11⟩) (by assumption) ?_
  case y11 => (intro w' hSw; (try dsimp only at hSw); go_simp; try with_reducible rfl)
  try simp only [Act.put, List.setIfInBounds_toArray, List.set_cons_zero, List.set_cons_succ]
  refine wpAnyH_take_d (i := 4) (d := some 10) (v := ?v12) rfl rfl (by kernel_rfl) (by kernel_rfl) (by kernel_rfl) (fun _ _ _ h => h) (Or.inl ⟨by kernel_rfl, ?y12⟩) (by assumption) ?_
  case y12 => (intro w' hSw; (try dsimp only at hSw); go_simp; try with_reducible rfl)
  try simp only [Act.put, List.setIfInBounds_toArray, List.set_cons_zero, List.set_cons_succ]
  refine wpAnyH_take_d (i := 5) (d := some 11) (v := ?v13) rfl rfl (by kernel_rfl) (by kernel_rfl) (by kernel_rfl) (fun _ _ _ h => h) (Or.inl ⟨by kernel_rfl, ?y13⟩) (by assumption) ?_
  case y13 => (intro w' hSw; (try dsimp only at hSw); go_simp; try with_reducible rfl)
  try simp only [Act.put, List.setIfInBounds_toArray, List.set_cons_zero, List.set_cons_succ]
  refine wpAnyH_ready (rs := [6]) (by kernel_rfl) (by simp) ?_
  refine AllReadyH.cons rfl (fun K hK => ?_) AllReadyH.nil
  go_simp
  refine (hp _ (by (repeat' (first | (with_reducible exact Below.refl _ _) | (with_reducible assumption) | (with_reducible refine Below.alloc ?_ ?_ _) | (with_reducible refine Below.drew ?_) | (with_reducible refine below_drewN ?_ _) | (with_reducible refine Below.setCell ?_ ?_ _) | (with_reducible refine Below.trans ?_ (Below.mono (by assumption) ?_)) | (first | omega | (simp only [World.size_alloc, World.size_setCell, World.size_drew]; omega) | (simp; omega) | (simp; done)))))).mono ?_; rintro e w1 ⟨rfl, hb1⟩
  refine hK.out _ _ ?s14 (fun hHeld14 => ?_)
  case s14 => ((try dsimp only); (first | go_keep | (obtain ⟨hq, _⟩ := bcell ‹Below _ _ _›; (repeat' apply And.intro) <;> (rw [hq _ _ (by first | assumption | omega | (simp; done) | (simp; omega) | (simp; assumption))] <;> (first | assumption | (simp [*]; done))))))
  clear hK K hHeld
  have hHeld := hHeld14; clear hHeld14
  try simp only [Act.put, List.setIfInBounds_toArray, List.set_cons_zero, List.set_cons_succ]
  refine wpAnyH_take_d (i := 7) (d := some 5) (v := ?v15) rfl rfl (by kernel_rfl) (by kernel_rfl) (by kernel_rfl) (fun _ _ _ h => h) (Or.inl ⟨by kernel_rfl, ?y15⟩) (by assumption) ?_
  case y15 => (intro w' hSw; (try dsimp only at hSw); go_simp; try with_reducible rfl)
  try simp only [Act.put, List.setIfInBounds_toArray, List.set_cons_zero, List.set_cons_succ]
  refine wpAnyH_done (by kernel_rfl) ?_ _
  refine NoPanic.normal ?_
  go_wp2
  go_ret
  exact ⟨rfl, by (repeat' (first | (with_reducible exact Below.refl _ _) | (with_reducible assumption) | (with_reducible refine Below.alloc ?_ ?_ _) | (with_reducible refine Below.drew ?_) | (with_reducible refine below_drewN ?_ _) | (with_reducible refine Below.setCell ?_ ?_ _) | (with_reducible refine Below.trans ?_ (Below.mono (by assumption) ?_)) | (first | omega | (simp only [World.size_alloc, World.size_setCell, World.size_drew]; omega) | (simp; omega) | (simp; done))))⟩

/-- Number i is in its range and clashes with no lesser neighbour's. -/
def properAt (xs : List Int) (k : Int) (are : Nat → Nat → Bool) (bad : Int → Int → Bool) (i : Nat) : Bool :=
  inB (xs.getD i 0) 0 (k - 1) && !(nbr are i).any (fun n => bad (xs.getD i 0) (xs.getD n.toNat 0))
/-- All do. -/
def properB (m : Nat) (xs : List Int) (k : Int) (are : Nat → Nat → Bool) (bad : Int → Int → Bool) : Bool := (List.range m).all (properAt xs k are bad)
theorem properB_no {m : Nat} {xs : List Int} {k : Int} {are : Nat → Nat → Bool} {bad : Int → Int → Bool} {i : Nat} (hi : i < m) (h : properAt xs k are bad i = false) : properB m xs k are bad = false := by
  rw [properB, List.all_eq_false]; exact ⟨i, by simpa using hi, by simp [h]⟩
theorem properB_yes {m : Nat} {xs : List Int} {k : Int} {are : Nat → Nat → Bool} {bad : Int → Int → Bool} (h : ∀ i, i < m → properAt xs k are bad i = true) : properB m xs k are bad = true := by
  rw [properB, List.all_eq_true]; intro i hi; exact h i (by simpa using hi)
theorem mem_nbr {are : Nat → Nat → Bool} {i : Nat} {a : Int} (h : a ∈ nbr are i) : ∃ n : Nat, a = n ∧ n < i ∧ are i n = true := by
  simp only [nbr, nbrTo, List.mem_map, List.mem_filter, List.mem_range] at h
  obtain ⟨n, ⟨h1, h2⟩, rfl⟩ := h
  exact ⟨n, rfl, h1, h2⟩

set_option maxHeartbeats 2000000 in
theorem isProper_b (A : Option Addr) (c : Nat) (xs : List Int) (m : Nat) (k : Int) (A' : Option Addr) (c' : Nat) (are : Nat → Nat → Bool) (g : Nat) (lb : Array Value) (bad : Int → Int → Bool) (w : World) (q : Bool)
    (hq : Hid (properB m xs k are bad = q)) (Hm : Hid (xs.length = m)) (hl : m ≤ 100000) (hk : 0 ≤ k ∧ k ≤ 1000) (hr : RdI w A xs) (hr' : RdL w A' (nbrs are m)) (eg : Ent g) (hp : PredB g lb bad (fun x => inB x 0 (k - 1) = true) w) :
    Calls Try.prog 77 #[.slice A m c, .int .i64 k, .slice A' m c', .func (.func g) #[] lb] w fun e w' => e = .returned (.bool q) ∧ Below w.heap.size w w' := by
  have hmf : ∀ (fn : Fn) (first cap : Array Value) (w : World), (Instr.makeFunc fn first cap).run Try.prog w = .ok (.func fn first cap) w := fun _ _ _ _ => rfl
  have hw : wrap64 (k - 1) = k - 1 := wrap64_small (by omega) (by omega)
  obtain ⟨k1, Hk1⟩ : ∃ k1, Hid (k - 1 = k1) := ⟨_, rfl⟩
  go_enter Try.func77, Try.ntmps77
  go_wp2
  go_loopw [13] (fun s wr => ∃ i : Nat, i ≤ m ∧ s = .int .i64 i ∧ Hid (∀ j, j < i → properAt xs k are bad j = true) ∧ Blk wr w.heap.size 36 #[.slice A m c] ∧ Blk wr (w.heap.size + 1) 89 #[.func (.func g) #[] lb] ∧ Below w.heap.size w wr) (fun i _ => m - (intOf i).toNat)
  case atStart => exact ⟨0, Nat.zero_le _, rfl, (by intro j hj; omega), (Blk.new _ _ _).alloc _, Blk.new' _ (by simp), by (repeat' (first | (with_reducible exact Below.refl _ _) | (with_reducible assumption) | (with_reducible refine Below.alloc ?_ ?_ _) | (with_reducible refine Below.drew ?_) | (with_reducible refine below_drewN ?_ _) | (with_reducible refine Below.setCell ?_ ?_ _) | (with_reducible refine Below.trans ?_ (Below.mono (by assumption) ?_)) | (first | omega | (simp only [World.size_alloc, World.size_setCell, World.size_drew]; omega) | (simp; omega) | (simp; done))))⟩
  case round =>
    obtain ⟨i, hi, rfl, hE, K0, K1, hbel⟩ := hrel
    have hsz := K1.lt
    have HK0 := Lib.hid K0; clear K0
    have HK1 := Lib.hid K1; clear K1
    by_cases hlt : i < m
    · obtain ⟨b, off, rfl, hb, hc⟩ := (hr.below hbel).pos (by have := Hm.out; omega)
      have hci := hc i (by have := Hm.out; omega)
      obtain ⟨x, Hx⟩ : ∃ x, Hid (xs.getD i 0 = x) := ⟨_, rfl⟩
      rw [Hx.out] at hci
      obtain ⟨b', off', rfl, hb', hcl⟩ := (hr'.below hbel).pos (by rw [nbrs_len]; omega)
      obtain ⟨A2, c2, hrow, hrr⟩ := hcl i (by rw [nbrs_len]; omega)
      rw [nbrs_getD _ _ _ hlt] at hrow hrr
      clear hc hcl
      have e0 : (0 : Int) ≤ i := by omega
      have e1 : (i : Int) < m := by omega
      have e2 : (i : Int).toNat = i := by omega
      obtain ⟨q1, h1⟩ : ∃ q1, Hid (inB x 0 (k - 1) = q1) := ⟨_, rfl⟩
      have c1 := fun W => within_b x 0 (k - 1) W q1 h1
      have k00 := HK0.out.cellAt 0 _ rfl
      cases q1
      · clear hrow hrr
        go_wp2_with fail
        refine (c1 _).mono ?_
        rintro e w1 ⟨rfl, rfl⟩
        go_wp2
        go_ret
        refine ⟨?_, by (repeat' (first | (with_reducible exact Below.refl _ _) | (with_reducible assumption) | (with_reducible refine Below.alloc ?_ ?_ _) | (with_reducible refine Below.drew ?_) | (with_reducible refine below_drewN ?_ _) | (with_reducible refine Below.setCell ?_ ?_ _) | (with_reducible refine Below.trans ?_ (Below.mono (by assumption) ?_)) | (first | omega | (simp only [World.size_alloc, World.size_setCell, World.size_drew]; omega) | (simp; omega) | (simp; done))))⟩
        rw [← hq.out, properB_no hlt (by rw [properAt, Hx.out, h1.out]; rfl)]; rfl
      · obtain ⟨q2, h2⟩ : ∃ q2, Hid ((nbr are i).any (fun n => bad x (xs.getD n.toNat 0)) = q2) := ⟨_, rfl⟩
        have hnl := nbrTo_len are i i
        have hprev : ∀ j, j < i → inB (xs.getD j 0) 0 (k - 1) = true := fun j hj => by
          have := hE.out j hj
          rw [properAt, Bool.and_eq_true] at this
          exact this.1
        have ck := fun (gx : Nat) (W : World) (hW : Below w.heap.size w W) (hW2 : Below wr.heap.size wr W) (hgx : gx < W.heap.size) (hgb : w.heap.size + 1 < W.heap.size) (d0 : W.cell? ⟨w.heap.size + 1, 0, none⟩ = some (.func (.func g) #[] lb)) (d1 : W.cell? ⟨gx, 0, none⟩ = some (.int .i64 x)) (d2 : W.cell? ⟨w.heap.size, 0, none⟩ = some (.slice (some ⟨b, off, none⟩) m c)) =>
          containsX_any A2 c2 (nbr are i) (nbr are i).length 110 #[.pointer (some ⟨w.heap.size + 1, 0, none⟩), .pointer (some ⟨gx, 0, none⟩), .pointer (some ⟨w.heap.size, 0, none⟩)] (fun n => bad x (xs.getD n.toNat 0)) W q2 rfl h2 (by have := hnl; unfold nbr; omega) (hrr.below hW2) ent_isProper1
            (fun W' a ha hW' => by
              obtain ⟨n, rfl, hn, _⟩ := mem_nbr ha
              obtain ⟨hf, _⟩ := bcell hW'
              have hs' := hW'.size
              simp only [Int.toNat_natCast]
              exact isProper1_b (w.heap.size + 1) gx w.heap.size g lb x (some ⟨b, off, none⟩) c xs m n W' _ Hm (by omega) (by omega) ((hr.below hW).below hW') eg (by omega) (by omega) (by omega)
                ((hf _ _ hgb).trans d0) ((hf _ _ hgx).trans d1) ((hf _ _ (by omega)).trans d2)
                (fun W'' hW'' => hp W'' x _ h1.out (hprev n hn) ((hW.trans (hW'.mono hW.size)).trans (hW''.mono (by have := hW.size; omega)))))
        clear hprev hp hr hr' hrr
        obtain ⟨rl, Hrl⟩ : ∃ rl, Hid ((nbr are i).length = rl) := ⟨_, rfl⟩
        rw [Hrl.out] at ck hrow
        have k10 := HK1.out.cellAt 0 _ rfl
        go_wp2_with fail
        refine (c1 _).mono ?_
        rintro e w1 ⟨rfl, rfl⟩
        go_wp2_with fail
        refine (ck wr.heap.size _ (by (repeat' (first | (with_reducible exact Below.refl _ _) | (with_reducible assumption) | (with_reducible refine Below.alloc ?_ ?_ _) | (with_reducible refine Below.drew ?_) | (with_reducible refine below_drewN ?_ _) | (with_reducible refine Below.setCell ?_ ?_ _) | (with_reducible refine Below.trans ?_ (Below.mono (by assumption) ?_)) | (first | omega | (simp only [World.size_alloc, World.size_setCell, World.size_drew]; omega) | (simp; omega) | (simp; done))))) (by (repeat' (first | (with_reducible exact Below.refl _ _) | (with_reducible assumption) | (with_reducible refine Below.alloc ?_ ?_ _) | (with_reducible refine Below.drew ?_) | (with_reducible refine below_drewN ?_ _) | (with_reducible refine Below.setCell ?_ ?_ _) | (with_reducible refine Below.trans ?_ (Below.mono (by assumption) ?_)) | (first | omega | (simp only [World.size_alloc, World.size_setCell, World.size_drew]; omega) | (simp; omega) | (simp; done))))) (by (first | omega | (simp only [World.size_alloc, World.size_setCell, World.size_drew]; omega) | (simp; omega) | (simp; done))) (by (first | omega | (simp only [World.size_alloc, World.size_setCell, World.size_drew]; omega) | (simp; omega) | (simp; done))) ((HK1.out.alloc _).cellAt 0 _ rfl) ((Blk.new _ _ _).cellAt 0 _ rfl) ((HK0.out.alloc _).cellAt 0 _ rfl)).mono ?_
        rintro e w2 ⟨rfl, hb2⟩
        simp only [World.size_alloc, World.size_setCell, World.size_drew] at hb2
        have HL0 := Lib.hid ((HK0.out.alloc (.cells #[.int .i64 x] 2)).below hb2 (by omega))
        have HL1 := Lib.hid ((HK1.out.alloc (.cells #[.int .i64 x] 2)).below hb2 (by omega))
        have hP : Hid (properAt xs k are bad i = !q2) := by show _ = _; rw [properAt, Hx.out, h1.out, h2.out]; rfl
        clear ck k00 k10 HK0 HK1 c1
        cases q2
        · go_wp2
          refine ⟨⟨i + 1, by omega, by go_num, ?_, HL0.out, HL1.out, by (repeat' (first | (with_reducible exact Below.refl _ _) | (with_reducible assumption) | (with_reducible refine Below.alloc ?_ ?_ _) | (with_reducible refine Below.drew ?_) | (with_reducible refine below_drewN ?_ _) | (with_reducible refine Below.setCell ?_ ?_ _) | (with_reducible refine Below.trans ?_ (Below.mono (by assumption) ?_)) | (first | omega | (simp only [World.size_alloc, World.size_setCell, World.size_drew]; omega) | (simp; omega) | (simp; done))))⟩, by simp [intOf]; omega⟩
          intro j hj
          by_cases e : j = i
          · subst e; exact hP.out
          · exact hE.out j (by omega)
        · go_wp2
          go_ret
          refine ⟨?_, by (repeat' (first | (with_reducible exact Below.refl _ _) | (with_reducible assumption) | (with_reducible refine Below.alloc ?_ ?_ _) | (with_reducible refine Below.drew ?_) | (with_reducible refine below_drewN ?_ _) | (with_reducible refine Below.setCell ?_ ?_ _) | (with_reducible refine Below.trans ?_ (Below.mono (by assumption) ?_)) | (first | omega | (simp only [World.size_alloc, World.size_setCell, World.size_drew]; omega) | (simp; omega) | (simp; done))))⟩
          rw [← hq.out, properB_no hlt hP.out]; rfl
    · obtain rfl : i = m := by omega
      go_wp2
      go_ret
      refine ⟨?_, hbel⟩
      rw [← hq.out, properB_yes hE.out]; rfl
end Go.Proofs.Ytkpnplldnihalaa
