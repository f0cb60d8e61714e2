/- slices.Repeat of one int. No statement of the program is proved here. -/
import Derived.Test.YtigdfcigoejjjaaAp1
import Derived.Test.YtigdfcigoejjjaaSe1
import Derived.Laws.CopyOwn
namespace Go.Proofs.Ytigdfcigoejjjaa
open Go.RowKit
set_option linter.unusedSimpArgs false
set_option linter.unusedVariables false
set_option maxRecDepth 20000

set_option maxHeartbeats 2000000 in
theorem mul64_one (n : Nat) (w : World) (hn : n ≤ 1000) :
    Calls Try.prog 143 #[.int .u64 1, .int .u64 n] w fun e w' => e = .returned (.tuple #[.int .u64 0, .int .u64 n]) ∧ w = w' := by
  have a1 : bits .and .u64 (1 : Int) 4294967295 = 1 := by decide
  have a2 : bits .and .u64 (n : Int) 4294967295 = n := by
    have h := andU (a := n) (b := 4294967295) (by omega) (by decide)
    have h2 : n &&& 4294967295 = n := by
      rw [show 4294967295 = 2 ^ 32 - 1 by decide, Nat.and_two_pow_sub_one_eq_mod]; omega
    rw [h2] at h
    exact h
  have a0 : bits .and .u64 (0 : Int) 4294967295 = 0 := by decide
  have a3 : (n : Int) / 2 ^ 32 = 0 := by
    have : ((2 : Int) ^ 32) = 4294967296 := by decide
    rw [this]; omega
  have a4 : (n : Int) / 4294967296 = 0 := by omega
  have a5 : IntKind.u64.wrap (n : Int) = n := wrapU (by omega)
  go_enter Try.func143, Try.ntmps143
  go_wp2
  go_ret2
  exact ⟨rfl, rfl⟩
set_option maxHeartbeats 2000000 in
theorem mul_one (n : Nat) (w : World) (hn : n ≤ 1000) :
    Calls Try.prog 136 #[.int .u64 1, .int .u64 n] w fun e w' => e = .returned (.tuple #[.int .u64 0, .int .u64 n]) ∧ w = w' := by
  have c1 := mul64_one n w hn
  go_enter Try.func136, Try.ntmps136
  go_wp2_with fail
  refine c1.mono ?_
  rintro e w1 ⟨rfl, rfl⟩
  go_wp2
  go_ret2
  exact ⟨rfl, rfl⟩
theorem splice_rep (N k m : Nat) (y : Int) (hm : k + m ≤ N) : splice (cI (List.replicate k y ++ List.replicate (N - k) 0)) k (cI (List.replicate m y)) = cI (List.replicate (k + m) y ++ List.replicate (N - (k + m)) 0) := by
  unfold splice cI
  simp only [List.map_append, List.map_replicate, List.length_replicate]
  rw [List.take_append_of_le_length (by simp), List.drop_append, List.take_of_length_le (by simp), List.drop_eq_nil_of_le (by simp)]
  simp only [List.length_replicate, List.nil_append, List.drop_replicate]
  rw [← List.append_assoc, List.replicate_append_replicate]
  congr 2
  omega
set_option maxHeartbeats 4000000 in
theorem repeat_b (A : Option Addr) (c : Nat) (y : Int) (N : Nat) (w : World) (hN : 0 < N) (hN2 : N ≤ 1000) (hr : RdI w A [y]) :
    Calls Try.prog 118 #[.slice A 1 c, .int .i64 N] w fun e w' => ∃ g, e = .returned (.slice (some ⟨g, 0, none⟩) N N) ∧ w'.ownsRow w.heap.size 2 1 (.slice (some ⟨g, 0, none⟩) N N) N (cI (List.replicate N y)) ∧ Below w.heap.size w w' := by
  have c1 := Lib.hid fun W => mul_one N W hN2
  have hinfo : (Try.prog.info? 2).map (·.size) = some 1 := by kernel_rfl
  obtain ⟨b, off, rfl, hb, hc⟩ := hr.pos (by simp)
  have hy : w.cell? ⟨b, off, none⟩ = some (.int .i64 y) := by have := hc 0 (by simp); simpa using this
  have u1 : IntKind.u64.wrap (N : Int) = N := wrapU (by omega)
  have hmk := mk_row Try.underlying25 infoI N (by omega) (by omega)
  simp only [made_int] at hmk
  have u2 : wrap64 (N : Int) = N := wrap64_small (by omega) (by omega)
  clear hc hr
  go_enter Try.func118, Try.ntmps118
  go_wp2_with fail
  refine (c1.out _).mono ?_
  rintro e w1 ⟨rfl, rfl⟩
  have hG0 : Blk (w.alloc (.cells (cI (List.replicate N 0)).toArray 2)) w.heap.size 2 (cI (List.replicate N 0)).toArray := Blk.new _ _ _
  have hB0 : Below w.heap.size w (w.alloc (.cells (cI (List.replicate N 0)).toArray 2)) := by (repeat' (first | (with_reducible exact Below.refl _ _) | (with_reducible assumption) | (with_reducible refine Below.alloc ?_ ?_ _) | (with_reducible refine Below.drew ?_) | (with_reducible refine below_drewN ?_ _) | (with_reducible refine Below.setCell ?_ ?_ _) | (with_reducible refine Below.trans ?_ (Below.mono (by assumption) ?_)) | (first | omega | (simp only [World.size_alloc, World.size_setCell, World.size_drew]; omega) | (simp; omega) | (simp; done))))
  have hy0 : (w.alloc (.cells (cI (List.replicate N 0)).toArray 2)).cell? ⟨b, off, none⟩ = some (.int .i64 y) := (hB0.cell (p := ⟨b, off, none⟩) hb).trans hy
  have HG0 := Lib.hid hG0; have HB0 := Lib.hid hB0; have Hy0 := Lib.hid hy0; have Hy := Lib.hid hy
  clear hG0 hB0 hy0 hy
  go_wp2_with (first
    | (refine wpList_copy_splice rfl (.tmp 31) (.tmp 32) 25 25 rfl 2 rfl hinfo _ _ _ _ _ _ rfl rfl w.heap.size 0 (cI (List.replicate N 0)) 2 HG0.out (cI [y]) ?p1 ?p2 ?p3 ?p4 w.heap.size w HB0.out (Nat.le_refl _) ?_))
  case p1 => first | exact (Nat.min_eq_left (by omega)).symm | (show 1 = min 1 N; omega)
  case p2 =>
    intro _ j v hj
    match j, hj with
    | 0, hj => simp [cI] at hj; subst hj; first | exact Hy0.out | exact Hy.out
  case p3 => rw [length_cI, length_cI, List.length_replicate]; simp; omega
  case p4 => intro v hv; simp [cI] at hv; subst hv; rfl
  intro w2 HG2 hB2
  have HB2 := Lib.hid hB2
  have HG3 : Hid (Blk w2 w.heap.size 2 (cI (List.replicate 1 y ++ List.replicate (N - 1) 0)).toArray) := by
    have h := HG2.out
    have e := splice_rep N 0 1 y (by omega)
    simp only [List.replicate_zero, List.nil_append, Nat.sub_zero, Nat.zero_add, List.replicate_one] at e
    rw [e] at h
    rw [List.replicate_one]
    exact h
  have l1 : (cI [y]).length = 1 := rfl
  clear HG2 hB2 HG0 HB0 Hy0
  go_wp2_with fail
  go_loopw [8] (fun n wr => ∃ k : Nat, 0 < k ∧ k ≤ N ∧ n = .int .i64 k ∧ Hid (Blk wr w.heap.size 2 (cI (List.replicate k y ++ List.replicate (N - k) 0)).toArray) ∧ Hid (Below w.heap.size w wr)) (fun n _ => N - (intOf n).toNat)
  case atStart => exact ⟨1, by omega, by omega, rfl, HG3, HB2⟩
  case round =>
    clear HG3 HB2
    obtain ⟨k, hk0, hk, rfl, HG, HB⟩ := hrel
    by_cases hlt : k < N
    · have hkn : ¬ N = k := by omega
      obtain ⟨m, Hm⟩ : ∃ m, Hid (min k (N - k) = m) := ⟨_, rfl⟩
      have hm : m ≤ k ∧ m ≤ N - k ∧ 0 < m := by
        have := Hm.out; omega
      have e1 : wrap64 ((k : Int) + (m : Int)) = (k : Int) + (m : Int) := wrap64_small (by omega) (by omega)
      have e2 : IntKind.i64.wrap ((k : Int) + (m : Int)) = (k : Int) + (m : Int) := IntWalk.i64_in _ (by omega)
      have hl9 : (cI (List.replicate m y)).length = m := by rw [length_cI, List.length_replicate]
      have Hsrc : Hid (∀ j v, (cI (List.replicate m y))[j]? = some v → wr.drew.cell? ((⟨w.heap.size, 0, none⟩ : Addr).add j) = some v) := fun j v hj => by
        have hj2 : j < m := by have := (List.getElem?_eq_some_iff.1 hj).1; rwa [hl9] at this
        rw [Addr.add_lit, Nat.zero_add]
        refine (HG.out.cellAt j v ?_)
        rw [List.getElem?_toArray, cI, List.map_append, List.getElem?_append_left (by simp; omega)]
        rw [cI] at hj
        simp only [List.map_replicate, List.getElem?_replicate] at hj ⊢
        rw [if_pos hj2] at hj
        rw [if_pos (by omega)]; exact hj
      have Hcur : Hid (wr.drew.heap[w.heap.size]? = some (.cells (cI (List.replicate k y ++ List.replicate (N - k) 0)).toArray 2 (0, 0))) := HG.out
      have HBd : Hid (Below w.heap.size w wr.drew) := Below.drew HB.out
      have h1c : Hid (∀ v ∈ cI (List.replicate m y), v.oneCell' = true) := fun v hv => by
        rw [cI, List.map_replicate, List.mem_replicate] at hv; rw [hv.2]; rfl
      have hfit : Hid (k + (cI (List.replicate m y)).length ≤ (cI (List.replicate k y ++ List.replicate (N - k) 0)).length) := by
        show _ ≤ _
        rw [hl9, length_cI, List.length_append, List.length_replicate, List.length_replicate]; omega
      have hmin : Hid ((cI (List.replicate m y)).length = Nat.min k (N - k)) := by show _ = _; rw [hl9]; exact Hm.out.symm
      have Hsp := Lib.hid (splice_rep N k m y (by omega))
      go_wp2_with fail
      go_region_law (refine step_copy_splice rfl (.tmp 41) (.tmp 44) 25 25 rfl 2 rfl hinfo (some ⟨w.heap.size, k, none⟩) (some ⟨w.heap.size, 0, none⟩) (N - k) (N - k) k N (by simp [Act.eval, Act.put]) (by simp [Act.eval, Act.put]) w.heap.size k (cI (List.replicate k y ++ List.replicate (N - k) 0)) 2 Hcur.out (cI (List.replicate m y)) hmin.out (fun _ => ⟨rfl, _, rfl, Hsrc.out⟩) hfit.out h1c.out w.heap.size w HBd.out (Nat.le_refl _) ?_; intro w4 HG4 hB4)
      have HB4 := Lib.hid hB4
      have HG5 : Hid (Blk w4 w.heap.size 2 (cI (List.replicate (k + m) y ++ List.replicate (N - (k + m)) 0)).toArray) := by
        have h := HG4.out
        rw [Hsp.out] at h
        exact h
      clear HG4 hB4 Hsrc Hcur HBd h1c hfit hmin Hsp HG HB
      go_wp2
      refine ⟨⟨.int .i64 ((k : Int) + (m : Int)), _, _, _, _, _, _, _, _, _, _, _, _, _, ⟨k + m, by omega, by omega, by simp, HG5, HB4⟩, rfl⟩, ?_⟩
      have h9 : (N - (k + m : Nat)) < N - k := by omega
      show N - (intOf (.int .i64 ((k : Int) + (m : Int)))).toNat < N - (intOf (.int .i64 (k : Int))).toNat
      simp [intOf]; omega
    · obtain rfl : N = k := by omega
      go_wp2
      go_ret
      refine ⟨_, rfl, ?_, HB.out⟩
      have h := HG.out
      rw [Nat.sub_self, List.replicate_zero, List.append_nil] at h
      exact own_blk h (by rw [length_cI, List.length_replicate]; omega) (by unfold maxLen; omega)
end Go.Proofs.Ytigdfcigoejjjaa
