/- The program's leastProper: the walk that it makes. -/
import Derived.Test.YtkpnplldnihalaaLp1
import Derived.Test.YtkpnplldnihalaaEx3
import Derived.Deep.CutBlock
namespace Go.Proofs.Ytkpnplldnihalaa
open Go.RowKit
set_option linter.unusedSimpArgs false
set_option linter.unusedVariables false
set_option maxRecDepth 20000

theorem ent_least11 : Ent 118 := enters_of Try.func118 (by kernel_rfl) rfl
set_option maxHeartbeats 1000000 in
theorem least11_b (gb gx gl : Nat) (g : Nat) (lb : Array Value) (x : Int) (A : Option Addr) (c : Nat) (xs : List Int) (m n : Nat) (w : World) (q : Bool) (Hm : Hid (xs.length = m)) (hl : m ≤ 1048576) (hn : n < m) (hr : RdI w A xs) (eg0 : Ent g)
    (h0 : gb < w.heap.size) (h1 : gx < w.heap.size) (h2 : gl < w.heap.size)
    (hc0 : w.cell? ⟨gb, 0, none⟩ = some (.func (.func g) #[] lb)) (hc1 : w.cell? ⟨gx, 0, none⟩ = some (.int .i64 x)) (hc2 : w.cell? ⟨gl, 0, none⟩ = some (.slice A m c))
    (hp : ∀ W, Below w.heap.size w W → Calls Try.prog g (#[.int .i64 x, .int .i64 (xs.getD n 0)] ++ lb) W fun e w' => e = .returned (.bool q) ∧ Below W.heap.size W w') :
    Calls Try.prog 118 #[.int .i64 n, .pointer (some ⟨gb, 0, none⟩), .pointer (some ⟨gx, 0, none⟩), .pointer (some ⟨gl, 0, none⟩)] w fun e w' => e = .returned (.bool q) ∧ Below w.heap.size w w' := by
  have eg := eg0
  unfold Ent at eg
  clear eg0
  obtain ⟨b, off, rfl, hb, hc⟩ := hr.pos (by have := Hm.out; omega)
  have hcn := hc n (by have := Hm.out; omega)
  obtain ⟨y, Hy⟩ : ∃ y, Hid (xs.getD n 0 = y) := ⟨_, rfl⟩
  rw [Hy.out] at hcn hp
  clear hc hr
  have n0 : (0 : Int) ≤ n := by omega
  have n1 : (n : Int) < m := by omega
  have n2 : (n : Int).toNat = n := by omega
  go_enter Try.func118, Try.ntmps118
  go_wp2
  refine wp_region_noPanic ?_
  refine wp_region_held_drew (S := (fun w' => w'.cell? ⟨gb, 0, none⟩ = some (.func (.func g) #[] lb) ∧ w'.cell? ⟨gx, 0, none⟩ = some (.int .i64 x) ∧ w'.cell? ⟨gl, 0, none⟩ = some (.slice (some ⟨b, off, none⟩) m c) ∧ w'.cell? ⟨b, off + n, none⟩ = some (.int .i64 y))) (by kernel_rfl) ?_ (fun hHeld => ?_)
  · (try dsimp only); (first | go_keep | (obtain ⟨hq, _⟩ := bcell ‹Below _ _ _›; (repeat' apply And.intro) <;> (rw [hq _ _ (by first | assumption | omega | (simp; done) | (simp; omega) | (simp; assumption))] <;> (first | assumption | (simp [*]; done)))))
  refine wpAnyH_take_d (i := 0) (d := some 6) (v := ?v1) rfl rfl (by kernel_rfl) (by kernel_rfl) (by kernel_rfl) (fun _ _ _ h => h) (Or.inl ⟨by kernel_rfl, ?y1⟩) (by assumption) ?_
  case y1 => (intro w' hSw; (try dsimp only at hSw); go_simp; try with_reducible rfl)
  try simp only [Act.put, List.setIfInBounds_toArray, List.set_cons_zero, List.set_cons_succ]
  refine wpAnyH_take_d (i := 1) (d := some 7) (v := ?v2) rfl rfl (by kernel_rfl) (by kernel_rfl) (by kernel_rfl) (fun _ _ _ h => h) (Or.inl ⟨by kernel_rfl, ?y2⟩) (by assumption) ?_
  case y2 => (intro w' hSw; (try dsimp only at hSw); go_simp; try with_reducible rfl)
  try simp only [Act.put, List.setIfInBounds_toArray, List.set_cons_zero, List.set_cons_succ]
  refine wpAnyH_take_d (i := 2) (d := some 8) (v := ?v3) rfl rfl (by kernel_rfl) (by kernel_rfl) (by kernel_rfl) (fun _ _ _ h => h) (Or.inl ⟨by kernel_rfl, ?y3⟩) (by assumption) ?_
  case y3 => (intro w' hSw; (try dsimp only at hSw); go_simp; try with_reducible rfl)
  try simp only [Act.put, List.setIfInBounds_toArray, List.set_cons_zero, List.set_cons_succ]
  refine wpAnyH_take_d (i := 3) (d := some 9) (v := ?v4) rfl rfl (by kernel_rfl) (by kernel_rfl) (by kernel_rfl) (fun _ _ _ h => h) (Or.inl ⟨by kernel_rfl, ?y4⟩) (by assumption) ?_
  case y4 => (intro w' hSw; (try dsimp only at hSw); go_simp; try with_reducible rfl)
  try simp only [Act.put, List.setIfInBounds_toArray, List.set_cons_zero, List.set_cons_succ]
  refine wpAnyH_take_d (i := 4) (d := some 10) (v := ?v5) rfl rfl (by kernel_rfl) (by kernel_rfl) (by kernel_rfl) (fun _ _ _ h => h) (Or.inl ⟨by kernel_rfl, ?y5⟩) (by assumption) ?_
  case y5 => (intro w' hSw; (try dsimp only at hSw); go_simp; try with_reducible rfl)
  try simp only [Act.put, List.setIfInBounds_toArray, List.set_cons_zero, List.set_cons_succ]
  refine wpAnyH_take_d (i := 5) (d := some 11) (v := ?v6) rfl rfl (by kernel_rfl) (by kernel_rfl) (by kernel_rfl) (fun _ _ _ h => h) (Or.inl ⟨by kernel_rfl, ?y6⟩) (by assumption) ?_
  case y6 => (intro w' hSw; (try dsimp only at hSw); go_simp; try with_reducible rfl)
  try simp only [Act.put, List.setIfInBounds_toArray, List.set_cons_zero, List.set_cons_succ]
  refine wpAnyH_ready (rs := [6]) (by kernel_rfl) (by simp) ?_
  refine AllReadyH.cons rfl (fun K hK => ?_) AllReadyH.nil
  go_simp
  refine (hp _ (by (repeat' (first | (with_reducible exact Below.refl _ _) | (with_reducible assumption) | (with_reducible refine Below.alloc ?_ ?_ _) | (with_reducible refine Below.drew ?_) | (with_reducible refine below_drewN ?_ _) | (with_reducible refine Below.setCell ?_ ?_ _) | (with_reducible refine Below.trans ?_ (Below.mono (by assumption) ?_)) | (first | omega | (simp only [World.size_alloc, World.size_setCell, World.size_drew]; omega) | (simp; omega) | (simp; done)))))).mono ?_; rintro e w1 ⟨rfl, hb1⟩
  refine hK.out _ _ ?s7 (fun hHeld7 => ?_)
  case s7 => ((try dsimp only); (first | go_keep | (obtain ⟨hq, _⟩ := bcell ‹Below _ _ _›; (repeat' apply And.intro) <;> (rw [hq _ _ (by first | assumption | omega | (simp; done) | (simp; omega) | (simp; assumption))] <;> (first | assumption | (simp [*]; done))))))
  clear hK K hHeld
  have hHeld := hHeld7; clear hHeld7
  try simp only [Act.put, List.setIfInBounds_toArray, List.set_cons_zero, List.set_cons_succ]
  refine wpAnyH_take_d (i := 7) (d := some 5) (v := ?v8) rfl rfl (by kernel_rfl) (by kernel_rfl) (by kernel_rfl) (fun _ _ _ h => h) (Or.inl ⟨by kernel_rfl, ?y8⟩) (by assumption) ?_
  case y8 => (intro w' hSw; (try dsimp only at hSw); go_simp; try with_reducible rfl)
  try simp only [Act.put, List.setIfInBounds_toArray, List.set_cons_zero, List.set_cons_succ]
  refine wpAnyH_done (by kernel_rfl) ?_ _
  refine NoPanic.normal ?_
  go_wp2
  go_ret
  exact ⟨rfl, by (repeat' (first | (with_reducible exact Below.refl _ _) | (with_reducible assumption) | (with_reducible refine Below.alloc ?_ ?_ _) | (with_reducible refine Below.drew ?_) | (with_reducible refine below_drewN ?_ _) | (with_reducible refine Below.setCell ?_ ?_ _) | (with_reducible refine Below.trans ?_ (Below.mono (by assumption) ?_)) | (first | omega | (simp only [World.size_alloc, World.size_setCell, World.size_drew]; omega) | (simp; omega) | (simp; done))))⟩

/-- The number in the cell that a pointer leads to. -/
def boxN (w : World) : Value → Nat
  | .pointer (some a) => (intOf ((w.cell? a).getD undef)).toNat
  | _ => 0
theorem boxN_eq {w : World} {a : Addr} {x : Nat} (h : w.cell? a = some (.int .i64 x)) : boxN w (.pointer (some a)) = x := by simp [boxN, h, intOf]

/-- What the walk's variables hold. -/
structure EnvL (W : World) (h T : Nat) (k : Int) (An : Option Addr) (cn gb : Nat) (lb : Array Value) (free : Bool) : Prop where
  lt : h + 6 < W.heap.size
  k0 : W.cell? ⟨h, 0, none⟩ = some (.int .i64 k)
  k1 : W.cell? ⟨h + 1, 0, none⟩ = some (.slice An T cn)
  k2 : W.cell? ⟨h + 2, 0, none⟩ = some (.func (.func gb) #[] lb)
  k3 : W.cell? ⟨h + 3, 0, none⟩ = some (.bool free)
  k5 : W.cell? ⟨h + 5, 0, none⟩ = some (.slice (some ⟨h + 4, 0, none⟩) T T)
  k6 : W.cell? ⟨h + 6, 0, none⟩ = some (.func (.func 117) #[] #[.pointer (some ⟨h + 5, 0, none⟩), .pointer (some ⟨h, 0, none⟩), .pointer (some ⟨h + 3, 0, none⟩), .pointer (some ⟨h + 1, 0, none⟩), .pointer (some ⟨h + 2, 0, none⟩), .pointer (some ⟨h + 6, 0, none⟩)])
theorem EnvL.keep {W W' : World} {h T : Nat} {k : Int} {An : Option Addr} {cn gb : Nat} {lb : Array Value} {free : Bool} (e : EnvL W h T k An cn gb lb free) (s : SameBut (h + 4) W W') : EnvL W' h T k An cn gb lb free := by
  have hl := e.lt
  have key : ∀ b, b < W.heap.size → b ≠ h + 4 → W'.cell? ⟨b, 0, none⟩ = W.cell? ⟨b, 0, none⟩ := fun b hb hg => World.cell?_of_block (s.2 b hb hg)
  exact ⟨Nat.lt_of_lt_of_le e.lt s.1, (key _ (by omega) (by omega)).trans e.k0, (key _ (by omega) (by omega)).trans e.k1, (key _ (by omega) (by omega)).trans e.k2, (key _ (by omega) (by omega)).trans e.k3, (key _ (by omega) (by omega)).trans e.k5, (key _ (by omega) (by omega)).trans e.k6⟩

/-- How many numbers are tried. -/
def candL (free : Bool) (k : Int) (pre : List Int) : Nat := if free = true then candF k pre else candC k pre
theorem fill_next {are : Nat → Nat → Bool} {bad : Int → Int → Bool} {cand : List Int → Nat} {r : Nat} {pre : List Int} {f : Nat → Option (List Int)} (hf : f = fun x : Nat => if fitsB are bad pre (x : Int) = true then fillO are bad cand r (pre ++ [(x : Int)]) else none) {x : Nat}
    (h : (List.range x).findSome? f = none) (h2 : f x = none) : (List.range (x + 1)).findSome? f = none := by
  rw [findSome_range, h, h2]; rfl
theorem fill_found {f : Nat → Option (List Int)} {x c : Nat} {xs : List Int} (hx : x < c) (h : (List.range x).findSome? f = none) (h2 : f x = some xs) : (List.range c).findSome? f = some xs := by
  obtain ⟨d, rfl⟩ : ∃ d, c = x + 1 + d := ⟨c - x - 1, by omega⟩
  clear hx
  induction d with
  | zero => rw [Nat.add_zero, findSome_range, h, h2]; rfl
  | succ d ih => rw [← Nat.add_assoc, findSome_range, ih]; rfl
theorem take_set_same {ys : List Int} {i : Nat} (v : Int) : (ys.set i v).take i = ys.take i := by
  rw [List.take_set_of_le (Nat.le_refl _)]
theorem take_set_next {ys : List Int} {i : Nat} (v : Int) (h : i < ys.length) : (ys.set i v).take (i + 1) = ys.take i ++ [v] := by
  rw [List.take_add_one, take_set_same]
  simp [h]

theorem mostL_le {pre : List Int} {c : Int} (hc : -1 ≤ c) (h : ∀ j, j < pre.length → pre.getD j 0 ≤ c) : mostL pre ≤ c := by
  have key : ∀ (xs : List Int) (b : Int), b ≤ c → (∀ a ∈ xs, a ≤ c) → xs.foldl max b ≤ c := fun xs => by
    induction xs with
    | nil => intro b hb _; exact hb
    | cons x xs ih => intro b hb hx; rw [List.foldl_cons]; exact ih _ (by have := hx x (by simp); omega) fun a ha => hx a (by simp [ha])
  refine key pre (-1) hc fun a ha => ?_
  obtain ⟨j, hj, rfl⟩ := List.mem_iff_getElem.1 ha
  have := h j hj
  simpa [List.getD, hj] using this
theorem candL_le (free : Bool) {k : Int} (hk : 1 ≤ k) (pre : List Int) : ((candL free k pre : Nat) : Int) ≤ k := by
  unfold candL
  split
  · have := candF_le k pre; omega
  · unfold candC; split <;> omega
theorem any_getD {are : Nat → Nat → Bool} {bad : Int → Int → Bool} {i : Nat} {x : Int} {ys pre : List Int} (h : ys.take i = pre) : ((nbr are i).any fun n => bad x (ys.getD n.toNat 0)) = ((nbr are i).any fun n => bad x (pre.getD n.toNat 0)) := by
  rw [Bool.eq_iff_iff, List.any_eq_true, List.any_eq_true]
  have key : ∀ n ∈ nbr are i, ys.getD n.toNat 0 = pre.getD n.toNat 0 := fun n hn => by
    obtain ⟨m, rfl, hm, _⟩ := mem_nbr hn
    rw [Int.toNat_natCast, ← h]
    simp [List.getD, List.getElem?_take, hm]
  constructor
  · rintro ⟨n, hn, hb⟩; exact ⟨n, hn, by rw [← key n hn]; exact hb⟩
  · rintro ⟨n, hn, hb⟩; exact ⟨n, hn, by rw [key n hn]; exact hb⟩

set_option maxHeartbeats 8000000 in
theorem growL_b (h T cn gb : Nat) (k : Int) (An : Option Addr) (lb : Array Value) (free : Bool) (are : Nat → Nat → Bool) (bad : Int → Int → Bool) (w0 : World) (B : Nat)
    (hB : B = w0.heap.size) (hBh : B ≤ h) (hk : 1 ≤ k ∧ k ≤ 1000) (hT : T ≤ 1000) (hnear : Hid (∀ W, Below B w0 W → RdL W An (nbrs are T))) (eg : Ent gb) (hbad : Hid (PredB gb lb bad (fun x => inB x 0 (k - 1) = true) w0)) :
    ∀ (r i : Nat) (pre ys : List Int) (W : World), i + r = T → pre.length = i → ys.length = T → Hid (ys.take i = pre) → Hid (∀ j, j < i → inB (pre.getD j 0) 0 (k - 1) = true) → Hid (EnvL W h T k An cn gb lb free) → Hid (Blk W (h + 4) 2 (cI ys).toArray) → Hid (Below B w0 W) →
      Calls Try.prog 117 #[.int .i64 i, .int .i64 (mostL pre), .pointer (some ⟨h + 5, 0, none⟩), .pointer (some ⟨h, 0, none⟩), .pointer (some ⟨h + 3, 0, none⟩), .pointer (some ⟨h + 1, 0, none⟩), .pointer (some ⟨h + 2, 0, none⟩), .pointer (some ⟨h + 6, 0, none⟩)] W
        fun e w' => e = .returned (.bool (fillO are bad (candL free k) r pre).isSome) ∧ SameBut (h + 4) W w' ∧ Below B W w' ∧ ∃ ys', Blk w' (h + 4) 2 (cI ys').toArray ∧ ys'.length = T ∧ ys'.take i = pre ∧ ∀ xs, fillO are bad (candL free k) r pre = some xs → ys' = xs := by
  intro r
  induction r with
  | zero =>
    intro i pre ys W hi hp hy hpre hin henv hblk hW
    have k5 := henv.out.k5
    have hres : Hid (ys = pre) := by show _ = _; rw [← hpre.out, List.take_of_length_le (by omega)]
    obtain rfl : i = T := by omega
    clear hnear hbad hin
    go_enter Try.func117, Try.ntmps117
    go_wp2
    go_ret
    refine ⟨rfl, SameBut.refl _ _, Below.refl _ _, ys, hblk.out, hy, hpre.out, fun xs h => ?_⟩
    simp only [fillO, Option.some.injEq] at h
    rw [← h]; exact hres.out
  | succ r ih =>
    intro i pre ys W hi hp hy hpre hin henv hblk hW
    have hiT : i < T := by omega
    have k0 := henv.out.k0
    have k3 := henv.out.k3
    have k5 := henv.out.k5
    have hlt := henv.out.lt
    have hmb := mostL_ge pre
    have hmb2 : mostL pre ≤ 1000 := by
      have := mostL_le (pre := pre) (c := k - 1) (by omega) (fun j hj => (inB_true.1 (hin.out j (by omega))).2)
      omega
    have hcc1 : ((candL free k pre : Nat) : Int) ≤ k := candL_le free hk.1 pre
    obtain ⟨m, Hm⟩ : ∃ m, Hid (mostL pre = m) := ⟨_, rfl⟩
    obtain ⟨f, Hf⟩ : ∃ f : Nat → Option (List Int), Hid (f = fun x : Nat => if fitsB are bad pre (x : Int) = true then fillO are bad (candL free k) r (pre ++ [(x : Int)]) else none) := ⟨_, rfl⟩
    obtain ⟨cc, Hcc⟩ : ∃ cc, Hid (candL free k pre = cc) := ⟨_, rfl⟩
    rw [Hcc.out] at hcc1
    have Hres : Hid (fillO are bad (candL free k) (r + 1) pre = (List.range cc).findSome? f) := by show _ = _; rw [fillO, Hcc.out, Hf.out]
    have m1 : ¬ ((i : Int) = T) := by omega
    rw [Hm.out] at hmb hmb2 ⊢
    go_enter Try.func117, Try.ntmps117
    go_upto_block 0 with fail
    go_cut [11] (fun sv wx => sv = .int .i64 ((cc : Int) - 1) ∧ W = wx)
    case first =>
      cases free
      · by_cases h0 : i = 0
        · have hc : Hid ((cc : Int) - 1 = 0) := by show _ = _; rw [← Hcc.out]; simp [candL, candC, hp, h0]
          subst h0
          go_wp2
          go_meet
          exact ⟨by rw [hc.out], rfl⟩
        · have hc : Hid ((cc : Int) - 1 = k - 1) := by show _ = _; rw [← Hcc.out]; simp [candL, candC, hp, h0]; omega
          have m2 : ¬ ((i : Int) = 0) := by omega
          go_wp2
          go_meet
          exact ⟨by rw [hc.out], rfl⟩
      · by_cases hmn : m + 1 < k - 1
        · have hc : Hid ((cc : Int) - 1 = m + 1) := by show _ = _; rw [← Hcc.out, candL, if_pos rfl, candF, Hm.out]; omega
          go_wp2
          go_meet
          exact ⟨by rw [hc.out], rfl⟩
        · have hc : Hid ((cc : Int) - 1 = k - 1) := by show _ = _; rw [← Hcc.out, candL, if_pos rfl, candF, Hm.out]; omega
          go_wp2
          go_meet
          exact ⟨by rw [hc.out], rfl⟩
    case rest =>
      obtain ⟨rfl, rfl⟩ := hcut
      clear k0 k3 k5 Hcc
      have Hy := Lib.hid hy; clear hy
      go_wp2
      go_loopw [12] (fun s wr => ∃ (x : Nat) (bx : Nat) (ys : List Int), x ≤ cc ∧ s = .pointer (some ⟨bx, 0, none⟩) ∧ wr.cell? ⟨bx, 0, none⟩ = some (.int .i64 x) ∧ wr.frozen? ⟨bx, 0, none⟩ = false ∧ Hid (W.heap.size ≤ bx ∧ bx < wr.heap.size) ∧ Hid ((List.range x).findSome? f = none) ∧ Hid (ys.length = T ∧ ys.take i = pre) ∧ Hid (EnvL wr h T k An cn gb lb free) ∧ Hid (Blk wr (h + 4) 2 (cI ys).toArray) ∧ Hid (SameBut (h + 4) W wr ∧ Below B W wr)) (fun s wr => cc - boxN wr s)
      case atStart =>
        have hb := (Below.alloc (Below.refl W.heap.size W) (Nat.le_refl _) (.cells #[.int .i64 0] 2))
        refine ⟨0, W.heap.size, ys, Nat.zero_le _, rfl, (Blk.new _ _ _).cellAt 0 _ rfl, (Blk.new _ _ _).frozen 0, ⟨Nat.le_refl _, by simp⟩, rfl, ⟨Hy.out, hpre.out⟩, henv.out.keep (SameBut.of_below hb), hblk.out.alloc _, ⟨SameBut.of_below hb, hb.mono (by omega)⟩⟩
      case round =>
        clear hpre henv hblk Hy ys
        obtain ⟨x, bx, ys, hx, rfl, hbx, hfz, Hbx, Hnone, Hys, HE, HQ, HSB⟩ := hrel
        have Hm0 : Hid (boxN wr (.pointer (some ⟨bx, 0, none⟩)) = x) := boxN_eq hbx
        by_cases hxc : x < cc
        · have t1 : (x : Int) ≤ (cc : Int) - 1 := by omega
          have k5 := HE.out.k5
          have lc := blkI_cell HQ.out (j := i) (by rw [Hys.out.1]; exact hiT)
          have lf := HQ.out.frozen i
          obtain ⟨ii, ii2, ii3⟩ := idxF i T hiT
          go_upto_region 12 with fail
          clear k5 lc lf t1
          have hs1 : SameBut (h + 4) wr (wr.setCell ⟨h + 4, i, none⟩ (.int .i64 x)) := (SameBut.refl _ _).set i _
          have hb1 : Below B wr (wr.setCell ⟨h + 4, i, none⟩ (.int .i64 x)) := (Below.refl _ _).setCell (p := ⟨h + 4, i, none⟩) (by show B ≤ h + 4; omega) _
          have hq1 := blkI_set (v := (x : Int)) HQ.out (xs' := ys.set i x) rfl
          have he1 := HE.out.keep hs1
          have hbx1 : (wr.setCell ⟨h + 4, i, none⟩ (.int .i64 x)).cell? ⟨bx, 0, none⟩ = some (.int .i64 x) := (sc_other (addr_ne (.inl (by have := Hbx.out; omega)))).trans hbx
          have hfz1 : (wr.setCell ⟨h + 4, i, none⟩ (.int .i64 x)).frozen? ⟨bx, 0, none⟩ = false := by rw [sc_frozen]; exact hfz
          have hlt1 : bx < (wr.setCell ⟨h + 4, i, none⟩ (.int .i64 x)).heap.size := by simpa [World.setCell] using Hbx.out.2
          generalize wr.setCell ⟨h + 4, i, none⟩ (.int .i64 x) = w1 at *
          have HB1 : Hid (Below B w0 w1) := (hW.out.trans HSB.out.2).trans hb1
          have Hs1 : Hid (SameBut (h + 4) W w1) := HSB.out.1.trans hs1
          have HbW : Hid (Below B W w1) := HSB.out.2.trans hb1
          obtain ⟨ys1, Hys1⟩ : ∃ z, Hid (ys.set i (x : Int) = z) := ⟨_, rfl⟩
          rw [Hys1.out] at hq1
          have Hl1 : Hid (ys1.length = T) := by show _ = _; rw [← Hys1.out, List.length_set]; exact Hys.out.1
          have Ht1 : Hid (ys1.take i = pre) := by show _ = _; rw [← Hys1.out, take_set_same]; exact Hys.out.2
          have Ht2 : Hid (ys1.take (i + 1) = pre ++ [(x : Int)]) := by show _ = _; rw [← Hys1.out, take_set_next _ (by rw [Hys.out.1]; exact hiT), Hys.out.2]
          clear hs1 hb1 hbx hfz HE HQ HSB Hys Hys1
          obtain ⟨b', off', rfl, hb', hcl⟩ := (hnear.out w1 HB1.out).pos (by rw [nbrs_len]; omega)
          obtain ⟨A2, c2, hrow, hrr⟩ := hcl i (by rw [nbrs_len]; omega)
          rw [nbrs_getD _ _ _ hiT] at hrow hrr
          clear hcl
          have hnl := nbrTo_len are i i
          have hq2 : Hid (((nbr are i).any fun n => bad x (ys1.getD n.toNat 0)) = ((nbr are i).any fun n => bad x (pre.getD n.toNat 0))) := any_getD Ht1.out
          obtain ⟨q2, h2⟩ : ∃ q2, Hid (((nbr are i).any fun n => bad x (ys1.getD n.toNat 0)) = q2) := ⟨_, rfl⟩
          have hkx : inB (x : Int) 0 (k - 1) = true := inB_true.2 (by omega)
          have hprev : Hid (∀ j, j < i → inB (ys1.getD j 0) 0 (k - 1) = true) := fun j hj => by
            have h9 := hin.out j hj
            rw [← Ht1.out] at h9
            simpa [List.getD, List.getElem?_take, hj] using h9
          have hfit : Hid (f x = if q2 = true then none else fillO are bad (candL free k) r (pre ++ [(x : Int)])) := by
            show _ = _
            rw [Hf.out]
            dsimp only
            rw [fitsB, hp, ← hq2.out, h2.out]
            cases q2 <;> rfl
          have ck := containsX_any A2 c2 (nbr are i) (nbr are i).length 118 #[.pointer (some ⟨h + 2, 0, none⟩), .pointer (some ⟨bx, 0, none⟩), .pointer (some ⟨h + 5, 0, none⟩)] (fun n => bad x (ys1.getD n.toNat 0)) w1 q2 rfl h2 (by unfold nbr; omega) hrr ent_least11
            (fun W' a ha hW' => by
              obtain ⟨n, rfl, hn, _⟩ := mem_nbr ha
              obtain ⟨hf1, _⟩ := bcell hW'
              have hs' := hW'.size
              have hlt := he1.lt
              simp only [Int.toNat_natCast]
              exact least11_b (h + 2) bx (h + 5) gb lb x (some ⟨h + 4, 0, none⟩) T ys1 T n W' _ Hl1 (by omega) (by omega) ((blkI_rd hq1).below hW') eg (by omega) (by omega) (by omega)
                ((hf1 _ _ (by omega)).trans he1.k2) ((hf1 _ _ hlt1).trans hbx1) ((hf1 _ _ (by omega)).trans he1.k5)
                (fun W'' hW'' => hbad.out W'' x _ hkx (hprev.out n hn) (by rw [← hB]; exact (HB1.out.trans (hW'.mono (by have := hq1.lt; have := he1.lt; omega))).trans (hW''.mono (by have := he1.lt; omega)))))
          clear hprev hrr hq2
          obtain ⟨rl, Hrl⟩ : ∃ rl, Hid ((nbr are i).length = rl) := ⟨_, rfl⟩
          rw [Hrl.out] at ck hrow
          have k1 := he1.k1
          have hmf : ∀ (fn : Fn) (first cap : Array Value) (w : World), (Instr.makeFunc fn first cap).run Try.prog w = .ok (.func fn first cap) w := fun _ _ _ _ => rfl
          have HE1 := Lib.hid he1; have HQ1 := Lib.hid hq1
          clear he1 hq1
          go_wp2_with fail
          refine ck.mono ?_
          rintro e w2 ⟨rfl, hb2⟩
          clear ck hrow k1 hmf
          have s2 : SameBut (h + 4) w1 w2 := SameBut.of_below hb2
          have HE2 := Lib.hid (HE1.out.keep s2)
          have HQ2 := Lib.hid (HQ1.out.below hb2 HQ1.out.lt)
          have hbx2 := ((bcell hb2).1 bx 0 hlt1).trans hbx1
          have hlt2 : bx < w2.heap.size := Nat.lt_of_lt_of_le hlt1 hb2.size
          have b12 : Below B w1 w2 := hb2.mono (by have := HE1.out.lt; omega)
          have Hs2 : Hid (SameBut (h + 4) W w2) := Hs1.out.trans s2
          have Hb2 : Hid (Below B W w2) := HbW.out.trans b12
          have HB2 : Hid (Below B w0 w2) := HB1.out.trans b12
          clear s2 b12 hb2 HE1 HQ1 hbx1 hfz1 hlt1 Hs1 HbW HB1
          cases q2
          · have k6 := HE2.out.k6
            have hin' : Hid (∀ j, j < i + 1 → inB ((pre ++ [(x : Int)]).getD j 0) 0 (k - 1) = true) := fun j hj => by
              by_cases e : j = i
              · subst e; rw [← hp]; simpa [List.getD] using hkx
              · have := hin.out j (by omega)
                simpa [List.getD, List.getElem?_append_left (show j < pre.length by omega)] using this
            have ih2 := ih (i + 1) (pre ++ [(x : Int)]) ys1 w2 (by omega) (by simp [hp]) Hl1.out Ht2 hin' HE2 HQ2 HB2
            rw [show ((i + 1 : Nat) : Int) = (i : Int) + 1 from rfl, mostL_snoc, Hm.out] at ih2
            obtain ⟨o, Ho⟩ : ∃ o, Hid (fillO are bad (candL free k) r (pre ++ [(x : Int)]) = o) := ⟨_, rfl⟩
            rw [Ho.out] at ih2
            have hfit2 : Hid (f x = o) := by show _ = _; rw [hfit.out, if_neg (by decide), Ho.out]
            have hms : ((max m (x : Int) = x ∧ m < (x : Int)) ∨ (max m (x : Int) = m ∧ ¬ (m < (x : Int)))) := by omega
            rcases hms with hms | hms
            · obtain ⟨e1, e2⟩ := hms
              rw [e1] at ih2
              clear e1
              go_wp2_with fail
              refine ih2.mono ?_
              rintro e w3 ⟨rfl, hs3, hb3, ys3, hQ3, hl3, ht3, hfin⟩
              have HE3 := Lib.hid (HE2.out.keep hs3)
              have HQ3 := Lib.hid hQ3
              have hbx3 := (World.cell?_of_block (w := w2) (a := ⟨bx, 0, none⟩) (hs3.2 bx hlt2 (by have := Hbx.out; have := hlt; omega))).trans hbx2
              have Hs3 : Hid (SameBut (h + 4) W w3) := Hs2.out.trans hs3
              have Hb3 : Hid (Below B W w3) := Hb2.out.trans hb3
              have Hfin := Lib.hid hfin
              have Ht3 : Hid (ys3.take i = pre) := by
                show _ = _
                have h9 := congrArg (List.take i) ht3
                rw [List.take_take, Nat.min_eq_left (by omega), List.take_append_of_le_length (by omega), List.take_of_length_le (show pre.length ≤ i by omega)] at h9
                exact h9
              clear k6 hs3 hb3 hQ3 hfin ht3 ih2 hbx2 hlt2
              cases o with
              | none =>
                have ob : (none : Option (List Int)).isSome = false := rfl
                rw [ob]
                go_wp2
                clear hbx3
                have hbe := (Below.alloc (Below.refl w3.heap.size w3) (Nat.le_refl _) (.cells #[.int .i64 ((x : Int) + 1)] 2))
                have hsz9 := Hs3.out.1
                have hfx : f x = none := hfit2.out
                refine ⟨⟨x + 1, w3.heap.size, ys3, by omega, rfl, (Blk.new _ _ _).cellAt 0 _ rfl, (Blk.new _ _ _).frozen 0, ⟨hsz9, by simp⟩, fill_next Hf.out Hnone.out hfx, ⟨hl3, Ht3.out⟩, HE3.out.keep (SameBut.of_below hbe), HQ3.out.alloc _, ⟨Hs3.out.trans (SameBut.of_below hbe), Hb3.out.trans (hbe.mono (by have := HE3.out.lt; omega))⟩⟩, ?_⟩
                rw [Hm0.out, boxN_eq (x := x + 1) ((Blk.new _ _ _).cellAt 0 _ rfl)]
                omega
              | some xs =>
                have ob : (some xs : Option (List Int)).isSome = true := rfl
                rw [ob]
                go_wp2
                clear hbx3
                go_ret
                have hff := fill_found hxc Hnone.out hfit2.out
                refine ⟨by rw [Hres.out, hff]; rfl, Hs3.out, Hb3.out, ys3, HQ3.out, hl3, Ht3.out, fun zs hz => ?_⟩
                rw [Hres.out, hff] at hz
                injection hz with hz
                rw [← hz]
                exact Hfin.out xs rfl
            · obtain ⟨e1, e2⟩ := hms
              rw [e1] at ih2
              clear e1
              go_wp2_with fail
              refine ih2.mono ?_
              rintro e w3 ⟨rfl, hs3, hb3, ys3, hQ3, hl3, ht3, hfin⟩
              have HE3 := Lib.hid (HE2.out.keep hs3)
              have HQ3 := Lib.hid hQ3
              have hbx3 := (World.cell?_of_block (w := w2) (a := ⟨bx, 0, none⟩) (hs3.2 bx hlt2 (by have := Hbx.out; have := hlt; omega))).trans hbx2
              have Hs3 : Hid (SameBut (h + 4) W w3) := Hs2.out.trans hs3
              have Hb3 : Hid (Below B W w3) := Hb2.out.trans hb3
              have Hfin := Lib.hid hfin
              have Ht3 : Hid (ys3.take i = pre) := by
                show _ = _
                have h9 := congrArg (List.take i) ht3
                rw [List.take_take, Nat.min_eq_left (by omega), List.take_append_of_le_length (by omega), List.take_of_length_le (show pre.length ≤ i by omega)] at h9
                exact h9
              clear k6 hs3 hb3 hQ3 hfin ht3 ih2 hbx2 hlt2
              cases o with
              | none =>
                have ob : (none : Option (List Int)).isSome = false := rfl
                rw [ob]
                go_wp2
                clear hbx3
                have hbe := (Below.alloc (Below.refl w3.heap.size w3) (Nat.le_refl _) (.cells #[.int .i64 ((x : Int) + 1)] 2))
                have hsz9 := Hs3.out.1
                have hfx : f x = none := hfit2.out
                refine ⟨⟨x + 1, w3.heap.size, ys3, by omega, rfl, (Blk.new _ _ _).cellAt 0 _ rfl, (Blk.new _ _ _).frozen 0, ⟨hsz9, by simp⟩, fill_next Hf.out Hnone.out hfx, ⟨hl3, Ht3.out⟩, HE3.out.keep (SameBut.of_below hbe), HQ3.out.alloc _, ⟨Hs3.out.trans (SameBut.of_below hbe), Hb3.out.trans (hbe.mono (by have := HE3.out.lt; omega))⟩⟩, ?_⟩
                rw [Hm0.out, boxN_eq (x := x + 1) ((Blk.new _ _ _).cellAt 0 _ rfl)]
                omega
              | some xs =>
                have ob : (some xs : Option (List Int)).isSome = true := rfl
                rw [ob]
                go_wp2
                clear hbx3
                go_ret
                have hff := fill_found hxc Hnone.out hfit2.out
                refine ⟨by rw [Hres.out, hff]; rfl, Hs3.out, Hb3.out, ys3, HQ3.out, hl3, Ht3.out, fun zs hz => ?_⟩
                rw [Hres.out, hff] at hz
                injection hz with hz
                rw [← hz]
                exact Hfin.out xs rfl
          · have hfx : f x = none := by rw [hfit.out]; rfl
            have Hfx := Lib.hid hfx
            clear hfx
            go_wp2
            clear hbx2
            have hbe := (Below.alloc (Below.refl w2.heap.size w2) (Nat.le_refl _) (.cells #[.int .i64 ((x : Int) + 1)] 2))
            have hsz9 := Hs2.out.1
            have hfx : f x = none := Hfx.out
            refine ⟨⟨x + 1, w2.heap.size, ys1, by omega, rfl, (Blk.new _ _ _).cellAt 0 _ rfl, (Blk.new _ _ _).frozen 0, ⟨hsz9, by simp⟩, fill_next Hf.out Hnone.out hfx, ⟨Hl1.out, Ht1.out⟩, HE2.out.keep (SameBut.of_below hbe), HQ2.out.alloc _, ⟨Hs2.out.trans (SameBut.of_below hbe), Hb2.out.trans (hbe.mono (by have := HE2.out.lt; omega))⟩⟩, ?_⟩
            rw [Hm0.out, boxN_eq (x := x + 1) ((Blk.new _ _ _).cellAt 0 _ rfl)]
            omega
        · obtain rfl : x = cc := by omega
          have t1 : ¬ ((x : Int) ≤ (x : Int) - 1) := by omega
          go_wp2
          go_ret
          refine ⟨by rw [Hres.out, Hnone.out]; rfl, HSB.out.1, (by first | exact HSB.out.2 | (rw [← hB]; exact HSB.out.2)), ys, HQ.out, Hys.out.1, Hys.out.2, fun xs hxs => ?_⟩
          rw [Hres.out, Hnone.out] at hxs
          cases hxs
end Go.Proofs.Ytkpnplldnihalaa
