/- Even sets of edges: by bits and by degrees; the program's isEven. -/
import Derived.Test.YtkpnplldnihalaaEv1
import Derived.Test.YtkpnplldnihalaaPc
import Derived.Test.YtkpnplldnihalaaAt
import Derived.Test.YtkpnplldnihalaaGr
namespace Go.Proofs.Ytkpnplldnihalaa
open Go.RowKit
set_option linter.unusedSimpArgs false
set_option linter.unusedVariables false
set_option maxRecDepth 20000

theorem setB_pair {xs : List Int} {m : Int} (h : setB xs m = true) : xs.Pairwise (· < ·) := by
  have key : ∀ d i, i + d + 1 < xs.length → xs.getD i 0 < xs.getD (i + d + 1) 0 := fun d => by
    induction d with
    | zero => intro i hi; exact setB_lt h hi
    | succ d ih =>
      intro i hi
      have h1 := ih i (by omega)
      have h2 := setB_lt h (i := i + d + 1) (by omega)
      rw [show i + (d + 1) + 1 = i + d + 1 + 1 by omega]
      omega
  rw [List.pairwise_iff_getElem]
  intro i j hi hj hij
  obtain ⟨d, rfl⟩ : ∃ d, j = i + d + 1 := ⟨j - i - 1, by omega⟩
  have := key d i hj
  simpa [List.getD, hi, hj] using this
/-- Counting by bits and by elements. -/
theorem count_bits (p : Nat → Bool) : ∀ (K : Nat) (xs : List Int), xs.Pairwise (· < ·) → (∀ x ∈ xs, 0 ≤ x ∧ x < (K : Int)) → ((List.range K).filter fun (i : Nat) => decide ((i : Int) ∈ xs) && p i).length = (xs.filter fun x => p x.toNat).length
  | 0, xs, _, h => by
    cases xs with
    | nil => rfl
    | cons x xs => have := h x (by simp); omega
  | K + 1, xs, hp, h => by
    rw [List.range_succ, List.filter_append, List.length_append]
    by_cases hm : (K : Int) ∈ xs
    · obtain ⟨s, t, rfl⟩ := List.append_of_mem hm
      have ht : t = [] := by
        cases t with
        | nil => rfl
        | cons y t =>
          have h1 := h y (by simp)
          rw [List.pairwise_append] at hp
          have h2 := List.rel_of_pairwise_cons hp.2.1 (a' := y) (by simp)
          omega
      subst ht
      have hs : ∀ x ∈ s, 0 ≤ x ∧ x < (K : Int) := fun x hx => by
        have h1 := h x (by simp [hx])
        rw [List.pairwise_append] at hp
        have h2 := hp.2.2 x hx (K : Int) (by simp)
        omega
      have ih := count_bits p K s (List.pairwise_append.1 hp).1 hs
      have e : ((List.range K).filter fun (i : Nat) => decide ((i : Int) ∈ s ++ [(K : Int)]) && p i) = ((List.range K).filter fun (i : Nat) => decide ((i : Int) ∈ s) && p i) := by
        refine List.filter_congr fun i hi => ?_
        have hi' : i < K := by simpa using hi
        congr 1
        rw [Bool.eq_iff_iff]
        simp only [decide_eq_true_eq, List.mem_append, List.mem_singleton]
        constructor
        · rintro (h1 | h1)
          · exact h1
          · omega
        · exact .inl
      rw [e, ih, List.filter_append, List.length_append]
      congr 1
      by_cases hk : p K = true
      · simp [hk]
      · simp [hk]
    · have hs : ∀ x ∈ xs, 0 ≤ x ∧ x < (K : Int) := fun x hx => by
        have h1 := h x hx
        have : x ≠ K := fun e => hm (e ▸ hx)
        omega
      rw [count_bits p K xs hp hs]
      simp [hm]
theorem filter_idx (p : Int → Bool) (xs : List Int) : ((List.range xs.length).filter fun j => p (xs.getD j 0)).length = (xs.filter p).length := by
  have e : (List.range xs.length).map (fun j => xs.getD j 0) = xs := by
    apply List.ext_getElem
    · simp
    · intro i h1 h2
      simp [List.getD, h2]
  conv => rhs; rw [← e]
  rw [List.filter_map, List.length_map]; rfl

/-- How many edges of a set are at v, by bits. -/
def evN (es : List (Int × Int)) (xs : List Int) (v : Nat) : Nat := Lib.popAux 64 (setN (atL es v) &&& setN xs)
theorem evN_degs {N : Nat} {es : List (Int × Int)} {xs : List Int} (hin : InN N es) (hne : ∀ j, j < es.length → (es.getD j (0, 0)).1 ≠ (es.getD j (0, 0)).2) (hL : es.length ≤ 60) (hs : setB xs es.length = true) {v : Nat} (hv : v < N) :
    (degs N (pickE es xs)).getD v 0 = (evN es xs v : Int) := by
  have hr := setB_in hs
  have hpg : ∀ j, j < (pickE es xs).length → ∃ k : Nat, k < es.length ∧ xs.getD j 0 = k ∧ (pickE es xs).getD j (0, 0) = es.getD k (0, 0) := fun j hj => by
    rw [pickE_len] at hj
    have h1 := hr _ (getD_mem' hj)
    exact ⟨(xs.getD j 0).toNat, by omega, by omega, pickE_getD hj⟩
  have hin2 : InN N (pickE es xs) := fun j hj => by
    obtain ⟨k, h1, _, h2⟩ := hpg j hj
    rw [h2]; exact hin k h1
  have hne2 : ∀ j, j < (pickE es xs).length → ((pickE es xs).getD j (0, 0)).1 ≠ ((pickE es xs).getD j (0, 0)).2 := fun j hj => by
    obtain ⟨k, h1, _, h2⟩ := hpg j hj
    rw [h2]; exact hne k h1
  have h1 := degs_at hin2 hne2 hv (pickE es xs).length (Nat.le_refl _)
  rw [List.take_length] at h1
  rw [h1]
  refine congrArg Int.ofNat ?_
  have e1 : ((List.range (pickE es xs).length).filter fun j => onB ((pickE es xs).getD j (0, 0)) v) = ((List.range xs.length).filter fun j => (fun x : Int => onB (es.getD x.toNat (0, 0)) v) (xs.getD j 0)) := by
    rw [pickE_len]
    refine List.filter_congr fun j hj => ?_
    rw [pickE_getD (by simpa using hj)]
  have e2 : ((List.range 64).filter fun i => (setN (atL es v) &&& setN xs).testBit i) = (List.range 64).filter fun (i : Nat) => decide ((i : Int) ∈ xs) && onB (es.getD i (0, 0)) v := by
    refine List.filter_congr fun i hi => ?_
    rw [Nat.testBit_and, setN_bit (fun x hx => by obtain ⟨k, rfl, _⟩ := mem_atL hx; omega), setN_bit (fun x hx => (hr x hx).1), Bool.and_comm]
    by_cases hx : (i : Int) ∈ xs
    · have hi2 := hr _ hx
      simp only [hx, decide_true, Bool.true_and]
      rw [Bool.eq_iff_iff, decide_eq_true_eq]
      constructor
      · intro h
        obtain ⟨k, e, _, h3⟩ := mem_atL h
        have : k = i := by omega
        rw [← this]; exact h3
      · intro h
        simp only [atL, atTo, nbrTo, List.mem_map, List.mem_filter, List.mem_range]
        exact ⟨i, ⟨by omega, h⟩, rfl⟩
    · simp [hx]
  rw [e1, filter_idx (fun x : Int => onB (es.getD x.toNat (0, 0)) v) xs, evN, pop_count, e2]
  exact (count_bits (fun k => onB (es.getD k (0, 0)) v) 64 xs (setB_pair hs) (fun x hx => by have := hr x hx; omega)).symm
theorem evenB_bits {N : Nat} {es : List (Int × Int)} {xs : List Int} (hin : InN N es) (hne : ∀ j, j < es.length → (es.getD j (0, 0)).1 ≠ (es.getD j (0, 0)).2) (hL : es.length ≤ 60) (hs : setB xs es.length = true) :
    evenB N es xs = (List.range N).all fun v => decide (evN es xs v % 2 = 0) := by
  rw [evenB, Bool.eq_iff_iff, List.all_eq_true, List.all_eq_true]
  constructor
  · intro h v hv
    have hv' : v < N := by simpa using hv
    have h1 := h _ (getD_mem' (X := degs N (pickE es xs)) (k := v) (by rw [degs_len]; exact hv'))
    rw [evN_degs hin hne hL hs hv'] at h1
    simp only [decide_eq_true_eq] at h1 ⊢
    omega
  · intro h x hx
    obtain ⟨j, hj, rfl⟩ := List.getElem_of_mem hx
    have hj' : j < N := by rw [degs_len] at hj; exact hj
    have h1 := h j (by simpa using hj')
    have e : (degs N (pickE es xs))[j] = (degs N (pickE es xs)).getD j 0 := by simp [List.getD, hj]
    rw [e, evN_degs hin hne hL hs hj']
    simp only [decide_eq_true_eq] at h1 ⊢
    omega

set_option maxHeartbeats 2000000 in
theorem isEven_b (N : Nat) (A : Option Addr) (c : Nat) (es : List (Int × Int)) (xs : List Int) (s : Nat) (w : World) (q : Bool) (hs : Hid (setN xs = s)) (hq : Hid (((List.range N).all fun v => decide (evN es xs v % 2 = 0)) = q)) (hN : N ≤ 1000) (hl : es.length ≤ 60) (hs63 : s < 2 ^ 63) (hr : RdE w A es) :
    Calls Try.prog 70 #[.agg #[.int .i64 N, .slice A es.length c], .int .u64 s] w fun e w' => e = .returned (.bool q) ∧ Below w.heap.size w w' := by
  have ca := fun (v : Nat) W (hW : Below w.heap.size w W) => at_own N A c es v W (by omega) (hr.below hW)
  have Hat : Hid (∀ v : Nat, ∀ x ∈ atL es v, 0 ≤ x ∧ x < (63 : Nat)) := fun v x hx => by
    obtain ⟨k, rfl, h1, _⟩ := mem_atL hx
    omega
  have Hal : Hid (∀ v : Nat, (atL es v).length ≤ 1048576) := fun v => by have := atL_len es v; omega
  obtain ⟨L, HL⟩ : ∃ L, Hid (es.length = L) := ⟨_, rfl⟩
  simp only [HL.out] at ca
  rw [HL.out] at hl ⊢
  have CA := Lib.hid ca
  clear ca hr
  go_enter Try.func70, Try.ntmps70
  go_wp2
  go_loopw [8] (fun i wr => ∃ v : Nat, v ≤ N ∧ i = .int .i64 v ∧ Hid (∀ j, j < v → evN es xs j % 2 = 0) ∧ Hid (Blk wr w.heap.size 30 #[.int .i64 N, .slice A L c]) ∧ Hid (Below w.heap.size w wr)) (fun i _ => N - (intOf i).toNat)
  case atStart => exact ⟨0, Nat.zero_le _, rfl, (by intro j hj; omega), Blk.new _ _ _, (by show Below _ _ _; (repeat' (first | (with_reducible exact Below.refl _ _) | (with_reducible assumption) | (with_reducible refine Below.alloc ?_ ?_ _) | (with_reducible refine Below.drew ?_) | (with_reducible refine below_drewN ?_ _) | (with_reducible refine Below.setCell ?_ ?_ _) | (with_reducible refine Below.trans ?_ (Below.mono (by assumption) ?_)) | (first | omega | (simp only [World.size_alloc, World.size_setCell, World.size_drew]; omega) | (simp; omega) | (simp; done)))))⟩
  case round =>
    obtain ⟨v, hv, rfl, hE, HK, Hbel⟩ := hrel
    by_cases hlt : v < N
    · have k00 := HK.out.cellAt 0 _ rfl
      have k01 := HK.out.cellAt 1 _ rfl
      have c1 := CA.out v wr Hbel.out
      have zK := HK.out.lt
      go_wp2_with fail
      refine c1.mono ?_
      rintro e w1 ⟨A1, c1', rfl, hown, hb1⟩
      have c2 := setOf_b A1 c1' (atL es v) w1 (Hal.out v) (Hat.out v) (own_rdI hown)
      have HB1 : Hid (Below w.heap.size w w1) := Hbel.out.trans (hb1.mono Hbel.out.size)
      have HK1 : Hid (Blk w1 w.heap.size 30 #[.int .i64 N, .slice A L c]) := HK.out.below hb1 zK
      have hb63 : setN (atL es v) < 2 ^ 63 := setN_lt (Hat.out v)
      obtain ⟨t, Ht⟩ : ∃ t, Hid (setN (atL es v) = t) := ⟨_, rfl⟩
      rw [Ht.out] at c2 hb63
      have ea := andU (a := t) (b := s) (Nat.lt_trans hb63 (by decide)) (Nat.lt_trans hs63 (by decide))
      have hlt64 : t &&& s < 2 ^ 64 := Nat.lt_trans (Nat.and_lt_two_pow _ hs63) (by decide)
      have Hev : Hid (evN es xs v = Lib.popAux 64 (t &&& s)) := by show _ = _; rw [evN, Ht.out, hs.out]
      obtain ⟨u, Hu⟩ : ∃ u, Hid (t &&& s = u) := ⟨_, rfl⟩
      rw [Hu.out] at ea hlt64 Hev
      have c3 := fun W => size_b u W hlt64
      obtain ⟨p, Hp⟩ : ∃ p : Nat, Hid (Lib.popAux 64 u = p) := ⟨_, rfl⟩
      simp only [Hp.out] at c3
      rw [Hp.out] at Hev
      have hmod : (p : Int).tmod 2 = ((p % 2 : Nat) : Int) := by rw [Int.tmod_eq_emod_of_nonneg (by omega)]; omega
      obtain ⟨r, Hr⟩ : ∃ r : Nat, Hid (p % 2 = r) := ⟨_, rfl⟩
      rw [Hr.out] at hmod
      clear hown hb1 c1 k00 k01 hlt64 hb63
      go_wp2_with fail
      refine c2.mono ?_
      rintro e w2 ⟨rfl, rfl⟩
      clear c2
      go_wp2_with fail
      refine (c3 _).mono ?_
      rintro e w3 ⟨rfl, rfl⟩
      clear c3
      by_cases h0 : r = 0
      · have hr0 : (r : Int) = 0 := by omega
        have n1 : ((r : Int) != 0) = false := by simpa using h0
        rw [hr0] at hmod
        go_wp2
        refine ⟨⟨v + 1, by omega, by go_num, ?_, HK1, HB1⟩, by simp [intOf]; omega⟩
        intro j hj
        by_cases e : j = v
        · subst e; rw [Hev.out, Hr.out]; exact h0
        · exact hE.out j (by omega)
      · have n1 : ((r : Int) != 0) = true := by simpa using h0
        have n2 : ((r : Int) == 0) = false := by simpa using h0
        have Hq : Hid (false = q) := by
          show _ = _
          rw [← hq.out, eq_comm, List.all_eq_false]
          exact ⟨v, by simpa using hlt, by rw [Hev.out, Hr.out]; simpa using h0⟩
        clear h0
        go_wp2
        go_ret
        exact ⟨by rw [← Hq.out]; rfl, HB1.out⟩
    · obtain rfl : v = N := by omega
      have Hq : Hid (true = q) := by
        show _ = _
        rw [← hq.out, eq_comm, List.all_eq_true]
        intro j hj
        simpa using hE.out j (by simpa using hj)
      go_wp2
      go_ret
      exact ⟨by rw [← Hq.out]; rfl, Hbel.out⟩
end Go.Proofs.Ytkpnplldnihalaa
