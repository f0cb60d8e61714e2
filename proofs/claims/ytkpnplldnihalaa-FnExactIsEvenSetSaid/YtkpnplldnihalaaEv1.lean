/- Even sets of edges: the reference's l07Even. -/
import Derived.Test.YtkpnplldnihalaaSe2
import Derived.Test.YtkpnplldnihalaaSp1
import Derived.StillTailTactics
namespace Go.Proofs.Ytkpnplldnihalaa
open Go.RowKit
set_option linter.unusedSimpArgs false
set_option linter.unusedVariables false
set_option maxRecDepth 20000

/-- The edges of a list of numbers. -/
def pickE (es : List (Int × Int)) (xs : List Int) : List (Int × Int) := xs.map fun i => es.getD i.toNat (0, 0)
theorem pickE_len (es : List (Int × Int)) (xs : List Int) : (pickE es xs).length = xs.length := by simp [pickE]
theorem pickE_getD {es : List (Int × Int)} {xs : List Int} {k : Nat} (h : k < xs.length) : (pickE es xs).getD k (0, 0) = es.getD (xs.getD k 0).toNat (0, 0) := by simp [pickE, List.getD, h]
theorem pickE_snoc {es : List (Int × Int)} {xs : List Int} {k : Nat} (h : k < xs.length) : pickE es (xs.take (k + 1)) = pickE es (xs.take k) ++ [es.getD (xs.getD k 0).toNat (0, 0)] := by
  have h1 : xs.getD k 0 = xs[k] := by simp [List.getD, h]
  rw [List.take_add_one, List.getElem?_eq_getElem h, h1]; simp only [pickE, List.map_append]; rfl
theorem getD_mem' {X : List Int} {k : Nat} (hk : k < X.length) : X.getD k 0 ∈ X := by simp [List.getD, hk]
/-- Each vertex is on an even number of the edges. -/
def evenB (N : Nat) (es : List (Int × Int)) (xs : List Int) : Bool := (degs N (pickE es xs)).all fun k => decide (k % 2 = 0)

set_option maxHeartbeats 4000000 in
theorem l07Even_b (N : Nat) (A : Option Addr) (c : Nat) (es : List (Int × Int)) (B : Option Addr) (cb : Nat) (xs : List Int) (w : World) (q : Bool) (hq : Hid (evenB N es xs = q)) (hN : N ≤ 1000) (hl : es.length ≤ 1000) (hlx : xs.length ≤ 1000) (hin : Hid (InN N es))
    (hxs : Hid (∀ x ∈ xs, 0 ≤ x ∧ x < (es.length : Int))) (hr : RdE w A es) (hx : RdI w B xs) :
    Calls Try.prog 68 #[.agg #[.int .i64 N, .slice A es.length c], .slice B xs.length cb] w fun e w' => e = .returned (.bool q) ∧ Below w.heap.size w w' := by
  have hmk := mk_row Try.underlying36 infoI N (by omega) (by omega)
  simp only [made_int] at hmk
  have Hre : Hid (∀ W, Below w.heap.size w W → RdE W A es) := fun W hW => hr.below hW
  have Hrx : Hid (∀ W, Below w.heap.size w W → RdI W B xs) := fun W hW => hx.below hW
  have Hbs : Hid (0 < xs.length → ∃ b off, A = some ⟨b, off, none⟩ ∧ b < w.heap.size) := fun hp => by
    have := hxs.out (xs.getD 0 0) (getD_mem' hp)
    obtain ⟨b, off, e, h1, _⟩ := hr.pos (by omega)
    exact ⟨b, off, e, h1⟩
  clear hr hx
  obtain ⟨L, HL⟩ : ∃ L, Hid (es.length = L) := ⟨_, rfl⟩
  obtain ⟨m, Hm⟩ : ∃ m, Hid (xs.length = m) := ⟨_, rfl⟩
  rw [HL.out] at hl ⊢
  rw [Hm.out] at hlx Hbs ⊢
  go_enter Try.func68, Try.ntmps68
  go_wp2
  go_loopw [6] (fun i wr => ∃ k : Nat, k ≤ m ∧ i = .int .i64 k ∧ Hid (Blk wr w.heap.size 30 #[.int .i64 N, .slice A L c]) ∧ Hid (Blk wr (w.heap.size + 1) 2 (cI (degs N (pickE es (xs.take k)))).toArray) ∧ Hid (Below w.heap.size w wr)) (fun i _ => m - (intOf i).toNat)
  case atStart => exact ⟨0, Nat.zero_le _, rfl, (Blk.new _ _ _).alloc _, Blk.new' _ (by simp), (by show Below _ _ _; (repeat' (first | (with_reducible exact Below.refl _ _) | (with_reducible assumption) | (with_reducible refine Below.alloc ?_ ?_ _) | (with_reducible refine Below.drew ?_) | (with_reducible refine below_drewN ?_ _) | (with_reducible refine Below.setCell ?_ ?_ _) | (with_reducible refine Below.trans ?_ (Below.mono (by assumption) ?_)) | (first | omega | (simp only [World.size_alloc, World.size_setCell, World.size_drew]; omega) | (simp; omega) | (simp; done)))))⟩
  case round =>
    obtain ⟨k, hk, rfl, HK, HB, Hbel⟩ := hrel
    by_cases hlt : k < m
    · obtain ⟨xb, xo, rfl, hxb, hxc⟩ := (Hrx.out wr Hbel.out).pos (by rw [Hm.out]; omega)
      have hxk := hxc k (by rw [Hm.out]; exact hlt)
      have hxm := hxs.out (xs.getD k 0) (getD_mem' (by rw [Hm.out]; exact hlt))
      obtain ⟨i, Hi⟩ : ∃ i : Nat, Hid (xs.getD k 0 = i) := ⟨(xs.getD k 0).toNat, by show _ = _; omega⟩
      rw [Hi.out] at hxk hxm
      have hiL : i < L := by rw [← HL.out]; omega
      obtain ⟨b, off, rfl, hb, hc⟩ := (Hre.out wr Hbel.out).pos (by rw [HL.out]; omega)
      obtain ⟨hc0, hc1⟩ := hc i (by rw [HL.out]; exact hiL)
      have hbw : b < w.heap.size := by
        obtain ⟨b', off', e, h1⟩ := Hbs.out (by omega)
        injection e with e; injection e with e _ _; omega
      obtain ⟨x, y, hxy, hx, hy⟩ := hin.out i (by rw [HL.out]; exact hiL)
      have Hxy := Lib.hid hxy
      rw [hxy] at hc0 hc1
      dsimp only at hc0 hc1
      obtain ⟨D, HD⟩ : ∃ D, Hid (degs N (pickE es (xs.take k)) = D) := ⟨_, rfl⟩
      have HDl : Hid (D.length = N) := by show _ = _; rw [← HD.out, degs_len]
      have Hnx : Hid (degs N (pickE es (xs.take (k + 1))) = incAt (incAt D x) y) := by
        show _ = _
        rw [pickE_snoc (by rw [Hm.out]; exact hlt), Hi.out, Int.toNat_natCast, hxy, degs_snoc, HD.out]; rfl
      have htl : ((pickE es (xs.take k)).length : Int) ≤ 1000 := by
        rw [pickE_len]; have := List.length_take_le k xs; have := Hm.out; omega
      have hbd := degs_bd N (pickE es (xs.take k))
      rw [HD.out] at HB hbd
      have hbx := hbd x
      have hby := incAt_bd _ x _ hbd y
      have d1 := blkI_cell HB.out (j := x) (by rw [HDl.out]; exact hx)
      have f1 := HB.out.frozen x
      have k00 := HK.out.cellAt 0 _ rfl
      have k01 := HK.out.cellAt 1 _ rfl
      obtain ⟨u, Hu⟩ : ∃ u, Hid (D.getD x 0 = u) := ⟨_, rfl⟩
      obtain ⟨v, Hv⟩ : ∃ v, Hid ((incAt D x).getD y 0 = v) := ⟨_, rfl⟩
      rw [Hu.out] at d1 hbx
      rw [Hv.out] at hby
      obtain ⟨ei, ei2, ei3⟩ := idxF i L hiL
      obtain ⟨ex, ex2, ex3⟩ := idxF x N hx
      obtain ⟨ey, ey2, ey3⟩ := idxF y N hy
      obtain ⟨ek, ek2, ek3⟩ := idxF k m hlt
      have q1 : IntKind.i64.wrap (u + 1) = u + 1 := IntWalk.i64_in _ (by omega)
      have hsz := Hbel.out.size
      clear hc hxc hbd hxy hxm
      go_wp2_with fail
      go_still_tail 14, (by kernel_rfl)
      clear q1
      go_wp2_with fail
      have q2 : IntKind.i64.wrap (v + 1) = v + 1 := IntWalk.i64_in _ (by omega)
      have hB2 : Blk (wr.setCell ⟨w.heap.size + 1, x, none⟩ (.int .i64 (u + 1))).drew (w.heap.size + 1) 2 (cI (incAt D x)).toArray := (blkI_set HB.out (by rw [← Hu.out]; rfl)).drew
      have hK2 : Blk (wr.setCell ⟨w.heap.size + 1, x, none⟩ (.int .i64 (u + 1))).drew w.heap.size 30 #[.int .i64 N, .slice (some ⟨b, off, none⟩) L c] := (HK.out.far (by simp) _).drew
      have hL2 : Below w.heap.size w (wr.setCell ⟨w.heap.size + 1, x, none⟩ (.int .i64 (u + 1))).drew := (Hbel.out.setCell (by simp) _).drew
      clear k00 k01 hxk hc0 hc1 d1 f1
      generalize (wr.setCell ⟨w.heap.size + 1, x, none⟩ (.int .i64 (u + 1))).drew = W2 at *
      obtain ⟨xb', xo', he, hxb', hxc⟩ := (Hrx.out W2 hL2).pos (by rw [Hm.out]; omega)
      obtain ⟨rfl, rfl⟩ : xb = xb' ∧ xo = xo' := by simpa using he
      have hxk := hxc k (by rw [Hm.out]; exact hlt)
      rw [Hi.out] at hxk
      obtain ⟨b', off', he2, hb', hc⟩ := (Hre.out W2 hL2).pos (by rw [HL.out]; omega)
      obtain ⟨rfl, rfl⟩ : b = b' ∧ off = off' := by simpa using he2
      have hc1 := (hc i (by rw [HL.out]; exact hiL)).2
      rw [Hxy.out] at hc1
      dsimp only at hc1
      have k00 := hK2.cellAt 0 _ rfl
      have k01 := hK2.cellAt 1 _ rfl
      have d2 := blkI_cell hB2 (j := y) (by rw [incAt_len, HDl.out]; exact hy)
      have f2 := hB2.frozen y
      rw [Hv.out] at d2
      have HB2 := Lib.hid hB2; have HK2 := Lib.hid hK2; have HL2 := Lib.hid hL2
      clear hB2 hK2 hL2 he he2 hxc hc
      go_still_tail 14, (by kernel_rfl)
      clear q2
      go_wp2
      refine ⟨⟨k + 1, by omega, by go_num, ?_, ?_, ?_⟩, by simp [intOf]; omega⟩
      · exact (HK2.out.far (by simp) _).drew
      · rw [Hnx.out]
        exact (blkI_set HB2.out (by rw [← Hv.out]; rfl)).drew
      · exact (HL2.out.setCell (by simp) _).drew
    · obtain rfl : k = m := by omega
      have hfull : xs.take k = xs := List.take_of_length_le (by rw [Hm.out]; exact Nat.le_refl _)
      rw [hfull] at HB
      obtain ⟨ds, Hds⟩ : ∃ ds, Hid (degs N (pickE es xs) = ds) := ⟨_, rfl⟩
      have Hbd : Hid (∀ j, 0 ≤ ds.getD j 0 ∧ ds.getD j 0 ≤ 2000) := fun j => by
        have h9 := degs_bd N (pickE es xs) j
        rw [Hds.out, pickE_len, Hm.out] at h9
        omega
      have Hdl : Hid (ds.length = N) := by show _ = _; rw [← Hds.out, degs_len]
      have hq2 : Hid (ds.all (fun k => decide (k % 2 = 0)) = q) := by show _ = _; rw [← hq.out, evenB, Hds.out]
      rw [Hds.out] at HB
      clear hq Hds HK Hre Hrx hfull
      go_wp2
      go_loopw [7] (fun i wv => ∃ v : Nat, v ≤ N ∧ i = .int .i64 v ∧ Hid (∀ j, j < v → ds.getD j 0 % 2 = 0) ∧ wr = wv) (fun i _ => N - (intOf i).toNat)
      case atStart => exact ⟨0, Nat.zero_le _, rfl, (by intro j hj; omega), rfl⟩
      case round =>
        obtain ⟨v, hv, rfl, hE, rfl⟩ := hrel
        by_cases hlt2 : v < N
        · have d := blkI_cell HB.out (j := v) (by rw [Hdl.out]; exact hlt2)
          have hbv := Hbd.out v
          obtain ⟨x, Hx⟩ : ∃ x, Hid (ds.getD v 0 = x) := ⟨_, rfl⟩
          rw [Hx.out] at d hbv
          have hmod : x.tmod 2 = x % 2 := Int.tmod_eq_emod_of_nonneg (by omega)
          obtain ⟨ev, ev2, ev3⟩ := idxF v N hlt2
          obtain ⟨r, Hr⟩ : ∃ r, Hid (x % 2 = r) := ⟨_, rfl⟩
          rw [Hr.out] at hmod
          by_cases h3 : r = 0
          · subst h3
            go_wp2
            refine ⟨⟨v + 1, by omega, by go_num, ?_, trivial⟩, by simp [intOf]; omega⟩
            intro j hj
            by_cases e : j = v
            · subst e; rw [Hx.out]; exact Hr.out
            · exact hE.out j (by omega)
          · have n1 : (r != 0) = true := by simpa using h3
            have n2 : (r == 0) = false := by simpa using h3
            have Hq : Hid (false = q) := by
              show _ = _
              rw [← hq2.out, eq_comm, List.all_eq_false]
              refine ⟨ds.getD v 0, getD_mem' (by rw [Hdl.out]; exact hlt2), ?_⟩
              rw [Hx.out, Hr.out]; simpa using h3
            clear h3
            go_wp2
            go_ret
            exact ⟨by rw [← Hq.out]; rfl, Hbel.out⟩
        · obtain rfl : v = N := by omega
          have Hq : Hid (true = q) := by
            show _ = _
            rw [← hq2.out, eq_comm, List.all_eq_true]
            intro x hx
            obtain ⟨j, hj, rfl⟩ := List.getElem_of_mem hx
            have h9 := hE.out j (by have := Hdl.out; omega)
            simpa [List.getD, hj] using h9
          go_wp2
          go_ret
          exact ⟨by rw [← Hq.out]; rfl, Hbel.out⟩
end Go.Proofs.Ytkpnplldnihalaa
