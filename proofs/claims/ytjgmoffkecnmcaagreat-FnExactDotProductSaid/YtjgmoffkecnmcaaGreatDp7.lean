/- Dot products: both sides joined. No statement of the program is proved here. -/
import Derived.Test.YtjgmoffkecnmcaaGreatDp4
import Derived.Test.YtjgmoffkecnmcaaGreatDp6
namespace Go.Proofs.YtjgmoffkecnmcaaGreat
open Go.RowKit
set_option linter.unusedSimpArgs false
set_option linter.unusedVariables false
set_option maxRecDepth 20000

theorem list_two {xs : List Int} {n u v : Int} (h : xs.length = 2) (hm : ∀ x ∈ xs, 0 ≤ x ∧ x < n ∧ x ≠ u ∧ x ≠ v) :
    ∃ a b : Nat, xs = [(a : Int), (b : Int)] ∧ ((a : Int) < n ∧ (a : Int) ≠ u ∧ (a : Int) ≠ v) ∧ ((b : Int) < n ∧ (b : Int) ≠ u ∧ (b : Int) ≠ v) := by
  match xs, h with
  | [x, y], _ =>
    have hx := hm x (by simp)
    have hy := hm y (by simp)
    refine ⟨x.toNat, y.toNat, ?_, ?_, ?_⟩
    · rw [Int.toNat_of_nonneg hx.1, Int.toNat_of_nonneg hy.1]
    · rw [Int.toNat_of_nonneg hx.1]; exact hx.2
    · rw [Int.toNat_of_nonneg hy.1]; exact hy.2
theorem joinN_comm {n : Int} {es : List (Int × Int)} (hg : isGraphB n es = true) {u v : Int} (huv : u ≠ v) (h : joinN es u v = 1) : joinN es v u = 1 := by
  have h1 := joinN_C hg huv
  have h2 := joinN_C hg (Ne.symm huv)
  rw [joinC_comm] at h2
  omega
theorem bcode_g {q1 q2 q3 : Bool} (h : (q1 && q2) = false) : bcode q1 q2 q3 = 1 := by unfold bcode; rw [if_pos h]
theorem bcode_e {q1 q2 q3 : Bool} (h : (q1 && q2) = true) (h2 : q3 = false) : bcode q1 q2 q3 = 2 := by unfold bcode; rw [if_neg (by rw [h]; decide), if_pos h2]
theorem inD_true {es : List (Int × Int)} {e f m a b : Int} (h : inD es e f m a b = true) : inB e 0 ((es.length : Int) - 1) = true ∧ inB f 0 ((es.length : Int) - 1) = true ∧ inB a 0 (m - 1) = true ∧ inB b 0 (m - 1) = true := by
  unfold inD at h
  simp only [Bool.and_eq_true] at h
  exact ⟨h.1, h.2.1, h.2.2.1, h.2.2.2⟩
theorem joinN_self {m : Int} {hs : List (Int × Int)} (hg : isGraphB m hs = true) {a : Int} (ha : inB a 0 (m - 1) = true) : joinN hs a a = 0 := by
  unfold joinN
  rw [List.length_eq_zero_iff, List.filter_eq_nil_iff]
  intro x hx
  obtain ⟨i, hi, rfl⟩ := List.mem_iff_getElem.1 hx
  have h3 := ends_three hg ha
  have h4 := h3.2.2 i (by rw [← h3.2.1]; exact hi)
  have e : (endsL hs a).getD i 0 = (endsL hs a)[i] := by simp [List.getD, hi]
  rw [e] at h4
  simpa using h4.2.2
theorem joinC_self {m : Int} {hs : List (Int × Int)} (hg : isGraphB m hs = true) (a : Int) : joinC hs a a hs.length = 0 := by
  rw [joinC_count]
  have : hs.filter (isJ a a) = [] := by
    rw [List.filter_eq_nil_iff]
    intro e he
    obtain ⟨k, hk, rfl⟩ := List.mem_iff_getElem.1 he
    have hlt := isGraphB_lt hg hk
    have e1 : hs[k] = hs.getD k (0, 0) := by simp [List.getD, hk]
    rw [e1]
    unfold isJ
    simp only [Bool.and_eq_true, decide_eq_true_eq]
    omega
  rw [this]; rfl
/-- The parts of a dot product that is made. -/
theorem dot_parts {m : Int} {hs : List (Int × Int)} (h2 : isGraphB m hs = true) {a b : Nat} (ha : inB (a : Int) 0 (m - 1) = true) (hb : inB (b : Int) 0 (m - 1) = true) (hj : joinN hs a b = 1) :
    (a : Int) ≠ b ∧ joinN hs b a = 1 ∧ ∃ s0 s1 s2 s3 : Nat, butL hs a b = [(s0 : Int), (s1 : Int)] ∧ butL hs b a = [(s2 : Int), (s3 : Int)] ∧
      ((s0 : Int) < m ∧ (s0 : Int) ≠ a ∧ (s0 : Int) ≠ b) ∧ ((s1 : Int) < m ∧ (s1 : Int) ≠ a ∧ (s1 : Int) ≠ b) ∧ ((s2 : Int) < m ∧ (s2 : Int) ≠ b ∧ (s2 : Int) ≠ a) ∧ ((s3 : Int) < m ∧ (s3 : Int) ≠ b ∧ (s3 : Int) ≠ a) := by
  have hab : (a : Int) ≠ b := by
    intro e
    rw [← e, joinN_self h2 ha] at hj
    cases hj
  have hj2 := joinN_comm h2 hab hj
  obtain ⟨s0, s1, hA, hs0, hs1⟩ := list_two (n := m) (u := a) (v := b) (butL_two h2 ha hj) fun x hx => butL_mem h2 ha hx
  obtain ⟨s2, s3, hB, hs2, hs3⟩ := list_two (n := m) (u := b) (v := a) (butL_two h2 hb hj2) fun x hx => butL_mem h2 hb hx
  exact ⟨hab, hj2, s0, s1, s2, s3, hA, hB, hs0, hs1, hs2, hs3⟩
theorem dotL_parts {n : Int} {es : List (Int × Int)} {i j : Nat} {hs : List (Int × Int)} {a b : Nat} {x0 x1 y0 y1 : Int} {s0 s1 s2 s3 : Nat} (hx : es.getD i (0, 0) = (x0, x1)) (hy : es.getD j (0, 0) = (y0, y1)) (hA : butL hs a b = [(s0 : Int), (s1 : Int)]) (hB : butL hs b a = [(s2 : Int), (s3 : Int)]) :
    dotL n es i j hs a b = dotK es (i : Int) (j : Int) es.length ++ woL (setN [(a : Int), (b : Int)]) n hs ++ dotQ (setN [(a : Int), (b : Int)]) n (x0, x1) (y0, y1) [((min s0 s1 : Nat) : Int), ((max s0 s1 : Nat) : Int), ((min s2 s3 : Nat) : Int), ((max s2 s3 : Nat) : Int)] 4 := by
  unfold dotL dotB
  rw [Int.toNat_natCast, Int.toNat_natCast, hx, hy, hA, hB, upI_min, upI_min]
  rfl

theorem implDot_b (n : Int) (A : Option Addr) (c : Nat) (es : List (Int × Int)) (e f m : Int) (B : Option Addr) (d : Nat) (hs : List (Int × Int)) (a b : Int) (w : World) (hl : es.length ≤ 1048576) (hl2 : hs.length ≤ 1048576) (hr : RdE w A es) (hr2 : RdE w B hs) (N : Int) (rs : List (Int × Int)) (r : Int) (R0 : Hid ((dotV n es e f m hs a b).1 = N)) (R1 : Hid ((dotV n es e f m hs a b).2.1 = rs)) (R2 : Hid ((dotV n es e f m hs a b).2.2 = r)) :
    Calls Tryz.prog 13 #[.agg #[.int .i64 n, .slice A es.length c], .int .i64 e, .int .i64 f, .agg #[.int .i64 m, .slice B hs.length d], .int .i64 a, .int .i64 b] w fun e' w' => RetG w' w.heap.size e' N rs r ∧ Below w.heap.size w w' := by
  by_cases hg : (isGraphB n es && isGraphB m hs) = true
  · have hg2 := hg
    rw [Bool.and_eq_true] at hg2
    obtain ⟨h1, h2⟩ := hg2
    have hn := isGraphB_n h1
    have hm := isGraphB_n h2
    have l1 := isGraphB_len h1
    have l2 := isGraphB_len h2
    have e1 : wrap64 (m - 1) = m - 1 := wrap64_small (by omega) (by omega)
    by_cases hv : inD es e f m a b = true
    · obtain ⟨he, hf, ha, hb⟩ := inD_true hv
      have be := inB_true.1 he
      have bf := inB_true.1 hf
      have ba := inB_true.1 ha
      have bb := inB_true.1 hb
      have hin := isGraphB_in h2
      obtain ⟨i, rfl⟩ : ∃ x : Nat, e = x := ⟨e.toNat, by omega⟩
      obtain ⟨j, rfl⟩ : ∃ x : Nat, f = x := ⟨f.toNat, by omega⟩
      obtain ⟨a', rfl⟩ : ∃ x : Nat, a = x := ⟨a.toNat, by omega⟩
      obtain ⟨b', rfl⟩ : ∃ x : Nat, b = x := ⟨b.toNat, by omega⟩
      obtain ⟨⟨x0, x1⟩, hx⟩ : ∃ p, es.getD i (0, 0) = p := ⟨_, rfl⟩
      obtain ⟨⟨y0, y1⟩, hy⟩ : ∃ p, es.getD j (0, 0) = p := ⟨_, rfl⟩
      by_cases hbad : badD es i j hs a' b'
      · rw [dotV_s hg hv hbad] at R0 R1 R2
        obtain rfl : 0 = N := R0.out
        obtain rfl : [] = rs := R1.out
        obtain rfl : 5 = r := R2.out
        refine implDot_state n A c es i j m B d hs a' b' x0 x1 y0 y1 w m.toNat (by omega) (by omega) hr hr2 (by omega) hin (by omega) (by omega) (by omega) hx hy h1 h2 he hf (by show _ = _; rw [e1]; exact ha) (by show _ = _; rw [e1]; exact hb) ?_
        unfold badD at hbad
        rw [Int.toNat_natCast, Int.toNat_natCast, hx, hy] at hbad
        exact hbad
      · rw [dotV_y hg hv hbad] at R0 R1 R2
        unfold badD at hbad
        rw [Int.toNat_natCast, Int.toNat_natCast, hx, hy] at hbad
        simp only [not_or, Decidable.not_not] at hbad
        obtain ⟨hnear, hj⟩ := hbad
        obtain ⟨hab, hj2, s0, s1, s2, s3, hA, hB, hs0, hs1, hs2, hs3⟩ := dot_parts h2 ha hb hj
        have hlen := dotL_len n es i j hs a' b'
        exact implDot_yes n A c es i j m B d hs a' b' x0 x1 y0 y1 w m.toNat (by omega) (by omega) hr hr2 (by omega) hin (by omega) (by omega) (by omega) hx hy h1 h2 he hf (by show _ = _; rw [e1]; exact ha) (by show _ = _; rw [e1]; exact hb) (by omega) (by omega) (by simpa using hnear) hj (min s0 s1) (max s0 s1) (min s2 s3) (max s2 s3) (by omega) (by rw [hA, upI_min]) (by rw [hB, upI_min]) (dot_pos h2 ha hb hab hj n) _ (dotL_parts hx hy hA hB) (by omega) N rs r R0 R1 R2
    · have hv' : inD es e f m a b = false := by simpa using hv
      rw [dotV_e hg hv'] at R0 R1 R2
      obtain rfl : 0 = N := R0.out
      obtain rfl : [] = rs := R1.out
      obtain rfl : 2 = r := R2.out
      exact implDot_code n A c es e f m B d hs a b w hl hl2 hr hr2 (isGraphB n es) (isGraphB m hs) (inB e 0 ((es.length : Int) - 1)) (inB f 0 ((es.length : Int) - 1)) (inB a 0 (m - 1)) (inB b 0 (m - 1)) rfl rfl rfl rfl (by show _ = _; rw [e1]) (by show _ = _; rw [e1]) 2 (bcode_e hg hv') (by decide)
  · have hg' : (isGraphB n es && isGraphB m hs) = false := by simpa using hg
    rw [dotV_g hg'] at R0 R1 R2
    obtain rfl : 0 = N := R0.out
    obtain rfl : [] = rs := R1.out
    obtain rfl : 1 = r := R2.out
    exact implDot_code n A c es e f m B d hs a b w hl hl2 hr hr2 (isGraphB n es) (isGraphB m hs) _ _ _ _ rfl rfl rfl rfl rfl rfl 1 (bcode_g hg') (by decide)

theorem specDot_b (n : Int) (A : Option Addr) (c : Nat) (es : List (Int × Int)) (e f m : Int) (B : Option Addr) (d : Nat) (hs : List (Int × Int)) (a b : Int) (w : World) (hl : es.length ≤ 1048576) (hl2 : hs.length ≤ 1048576) (hr : RdE w A es) (hr2 : RdE w B hs) (N : Int) (rs : List (Int × Int)) (r : Int) (R0 : Hid ((dotV n es e f m hs a b).1 = N)) (R1 : Hid ((dotV n es e f m hs a b).2.1 = rs)) (R2 : Hid ((dotV n es e f m hs a b).2.2 = r)) :
    Calls Tryz.prog 12 #[.agg #[.int .i64 n, .slice A es.length c], .int .i64 e, .int .i64 f, .agg #[.int .i64 m, .slice B hs.length d], .int .i64 a, .int .i64 b] w fun e' w' => RetG w' w.heap.size e' N rs r ∧ Below w.heap.size w w' := by
  have v1 : [e, f].all (fun v => inB v 0 ((es.length : Int) - 1)) = (inB e 0 ((es.length : Int) - 1) && inB f 0 ((es.length : Int) - 1)) := by simp
  have v2 : [a, b].all (fun v => inB v 0 (m - 1)) = (inB a 0 (m - 1) && inB b 0 (m - 1)) := by simp
  by_cases hg : (isGraphB n es && isGraphB m hs) = true
  · have hg2 := hg
    rw [Bool.and_eq_true] at hg2
    obtain ⟨h1, h2⟩ := hg2
    have hn := isGraphB_n h1
    have hm := isGraphB_n h2
    have l1 := isGraphB_len h1
    have l2 := isGraphB_len h2
    by_cases hv : inD es e f m a b = true
    · obtain ⟨he, hf, ha, hb⟩ := inD_true hv
      have be := inB_true.1 he
      have bf := inB_true.1 hf
      have ba := inB_true.1 ha
      have bb := inB_true.1 hb
      have v1' := v1.trans (by rw [he, hf]; rfl : _ = true)
      have v2' := v2.trans (by rw [ha, hb]; rfl : _ = true)
      have hin := isGraphB_in h2
      obtain ⟨i, rfl⟩ : ∃ x : Nat, e = x := ⟨e.toNat, by omega⟩
      obtain ⟨j, rfl⟩ : ∃ x : Nat, f = x := ⟨f.toNat, by omega⟩
      obtain ⟨a', rfl⟩ : ∃ x : Nat, a = x := ⟨a.toNat, by omega⟩
      obtain ⟨b', rfl⟩ : ∃ x : Nat, b = x := ⟨b.toNat, by omega⟩
      obtain ⟨P, rfl⟩ : ∃ x : Nat, m = x := ⟨m.toNat, by omega⟩
      rw [Int.toNat_natCast] at hin
      obtain ⟨⟨x0, x1⟩, hx⟩ : ∃ p, es.getD i (0, 0) = p := ⟨_, rfl⟩
      obtain ⟨⟨y0, y1⟩, hy⟩ : ∃ p, es.getD j (0, 0) = p := ⟨_, rfl⟩
      have hJ : joinN hs a' b' = 1 ↔ joinC hs a' b' hs.length = 1 := by
        by_cases hab : (a' : Int) = b'
        · rw [← hab, joinN_self h2 ha, joinC_self h2]; simp
        · have := joinN_C h2 hab; omega
      have hself : nearB (es.getD i (0, 0)) (es.getD i (0, 0)) = true := by simp [nearB, onB]
      by_cases hbad : badD es i j hs a' b'
      · rw [dotV_s hg hv hbad] at R0 R1 R2
        obtain rfl : 0 = N := R0.out
        obtain rfl : [] = rs := R1.out
        obtain rfl : 5 = r := R2.out
        refine specDot_state n A c es i j P B d hs a' b' w (by omega) (by omega) hr hr2 h1 h2 v1' v2' (by omega) (by omega) (by omega) (by omega) 5 ?_
        unfold badD at hbad
        rw [Int.toNat_natCast, Int.toNat_natCast] at hbad
        by_cases hij : i = j
        · exact .inl ⟨hij, rfl⟩
        · by_cases hnear : nearB (es.getD i (0, 0)) (es.getD j (0, 0)) = true
          · exact .inr (.inl ⟨hij, hnear, rfl⟩)
          · exact .inr (.inr (.inl ⟨hij, by simpa using hnear, fun h => (hbad.resolve_left hnear) (hJ.2 h), rfl⟩))
      · rw [dotV_y hg hv hbad] at R0 R1 R2
        unfold badD at hbad
        rw [Int.toNat_natCast, Int.toNat_natCast] at hbad
        simp only [not_or, Decidable.not_not] at hbad
        obtain ⟨hnear, hj⟩ := hbad
        have hnear' : nearB (es.getD i (0, 0)) (es.getD j (0, 0)) = false := by simpa using hnear
        have hij : i ≠ j := fun h => hnear (by rw [← h]; exact hself)
        have hjc := hJ.1 hj
        by_cases h20 : n + (P : Int) - 2 > 20
        · have hlv : limV (n + (P : Int) - 2) (dotL n es i j hs a' b') = (0, [], 3) := by unfold limV; rw [if_pos h20]
          rw [hlv] at R0 R1 R2
          obtain rfl : 0 = N := R0.out
          obtain rfl : [] = rs := R1.out
          obtain rfl : 3 = r := R2.out
          exact specDot_state n A c es i j P B d hs a' b' w (by omega) (by omega) hr hr2 h1 h2 v1' v2' (by omega) (by omega) (by omega) (by omega) 3 (.inr (.inr (.inr ⟨hij, hnear', hjc, h20, rfl⟩)))
        · have hlv : limV (n + (P : Int) - 2) (dotL n es i j hs a' b') = (n + (P : Int) - 2, madeE (dotL n es i j hs a' b'), 0) := by unfold limV; rw [if_neg h20]
          rw [hlv] at R0 R1 R2
          obtain rfl : n + (P : Int) - 2 = N := R0.out
          obtain rfl : madeE (dotL n es i j hs a' b') = rs := R1.out
          obtain rfl : 0 = r := R2.out
          obtain ⟨hab, hj2, s0, s1, s2, s3, hA, hB, hs0, hs1, hs2, hs3⟩ := dot_parts h2 ha hb hj
          have hlen := dotL_len n es i j hs a' b'
          obtain ⟨k, hk, hkl, hkJ⟩ := joinF_one hjc
          have hon : onB (hs.getD k (0, 0)) a' = true ∧ onB (hs.getD k (0, 0)) b' = true ∧ (hs.getD k (0, 0)).1 + (hs.getD k (0, 0)).2 = (a' : Int) + b' := by
            generalize hs.getD k (0, 0) = p at hkJ
            obtain ⟨u, v⟩ := p
            simp only [isJ, Bool.and_eq_true, decide_eq_true_eq] at hkJ
            simp only [onB, Bool.or_eq_true, decide_eq_true_eq]
            omega
          have hU := endW_but hkl hon.1 (by omega : (hs.getD k (0, 0)).1 + (hs.getD k (0, 0)).2 - (a' : Int) = b') hj
          have hV := endW_but hkl hon.2.1 (by omega : (hs.getD k (0, 0)).1 + (hs.getD k (0, 0)).2 - (b' : Int) = a') hj2
          have hbit : ∀ s : Nat, s = s0 ∨ s = s1 ∨ s = s2 ∨ s = s3 → (setN [(a' : Int), (b' : Int)]).testBit s = false := fun s hs9 => by
            rw [setN_bit (by simp)]
            simp only [decide_eq_false_iff_not, List.mem_cons, List.not_mem_nil, or_false, not_or]
            rcases hs9 with rfl | rfl | rfl | rfl
            · exact ⟨hs0.2.1, hs0.2.2⟩
            · exact ⟨hs1.2.1, hs1.2.2⟩
            · exact ⟨hs2.2.2, hs2.2.1⟩
            · exact ⟨hs3.2.2, hs3.2.1⟩
          exact specDot_yes n A c es i j P B d hs a' b' w (by omega) (by omega) hr hr2 h1 h2 v1' v2' (by omega) (by omega) (by omega) (by omega) x0 x1 y0 y1 hx hy hij hnear' hjc (by omega) hin (by omega) (ends_three h2 ha).1 (ends_three h2 hb).1 s0 s1 s2 s3 (by omega) hbit k hk (hU.trans hA) (hV.trans hB) _ (dotL_parts hx hy hA hB) (by omega)
    · have hv' : inD es e f m a b = false := by simpa using hv
      rw [dotV_e hg hv'] at R0 R1 R2
      obtain rfl : 0 = N := R0.out
      obtain rfl : [] = rs := R1.out
      obtain rfl : 2 = r := R2.out
      unfold inD at hv'
      rw [← Bool.and_assoc] at hv'
      cases h3 : (inB e 0 ((es.length : Int) - 1) && inB f 0 ((es.length : Int) - 1))
      · exact specDot_code n A c es e f m B d hs a b w hl hl2 hr hr2 true true false _ h1 h2 (v1.trans h3) rfl 2 (.inr (.inr (.inl ⟨rfl, rfl, rfl, rfl⟩)))
      · rw [h3, Bool.true_and] at hv'
        exact specDot_code n A c es e f m B d hs a b w hl hl2 hr hr2 true true true false h1 h2 (v1.trans h3) (v2.trans hv') 2 (.inr (.inr (.inr ⟨rfl, rfl, rfl, rfl, rfl⟩)))
  · have hg' : (isGraphB n es && isGraphB m hs) = false := by simpa using hg
    rw [dotV_g hg'] at R0 R1 R2
    obtain rfl : 0 = N := R0.out
    obtain rfl : [] = rs := R1.out
    obtain rfl : 1 = r := R2.out
    cases h1 : isGraphB n es
    · exact specDot_code n A c es e f m B d hs a b w hl hl2 hr hr2 false _ _ _ h1 rfl rfl rfl 1 (.inl ⟨rfl, rfl⟩)
    · rw [h1, Bool.true_and] at hg'
      exact specDot_code n A c es e f m B d hs a b w hl hl2 hr hr2 true false _ _ h1 hg' rfl rfl 1 (.inr (.inl ⟨rfl, rfl, rfl⟩))
end Go.Proofs.YtjgmoffkecnmcaaGreat
