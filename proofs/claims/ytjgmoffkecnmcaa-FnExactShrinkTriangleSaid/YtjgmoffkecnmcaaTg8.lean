/- Shrunk triangles: both sides joined. No statement of the program is proved here. -/
import Derived.Test.YtjgmoffkecnmcaaTg4
import Derived.Test.YtjgmoffkecnmcaaTg7
namespace Go.Proofs.Ytjgmoffkecnmcaa
open Go.RowKit
set_option linter.unusedSimpArgs false
set_option linter.unusedVariables false
set_option maxRecDepth 20000

/-- No triangle. -/
def badT (es : List (Int × Int)) (a b c : Int) : Prop := a = b ∨ a = c ∨ b = c ∨ joinN es a b ≠ 1 ∨ joinN es a c ≠ 1 ∨ joinN es b c ≠ 1
theorem triV_g {n a b c : Int} {es : List (Int × Int)} (h : isGraphB n es = false) : triV n es a b c = (0, [], 1) := by
  unfold triV; rw [if_pos h]
theorem triV_v {n a b c : Int} {es : List (Int × Int)} (h1 : isGraphB n es = true) (h : (inB a 0 (n - 1) && inB b 0 (n - 1) && inB c 0 (n - 1)) = false) : triV n es a b c = (0, [], 2) := by
  unfold triV; rw [if_neg (by rw [h1]; decide), if_pos h]
theorem triV_s {n a b c : Int} {es : List (Int × Int)} (h1 : isGraphB n es = true) (h2 : (inB a 0 (n - 1) && inB b 0 (n - 1) && inB c 0 (n - 1)) = true) (h : badT es a b c) : triV n es a b c = (0, [], 5) := by
  unfold triV; rw [if_neg (by rw [h1]; decide), if_neg (by rw [h2]; decide)]; exact if_pos h
theorem triV_y {n a b c : Int} {es : List (Int × Int)} (h1 : isGraphB n es = true) (h2 : (inB a 0 (n - 1) && inB b 0 (n - 1) && inB c 0 (n - 1)) = true) (h : ¬ badT es a b c) : triV n es a b c = (n - 2, madeE (trL (setN [a, b, c]) (min a (min b c)).toNat es), 0) := by
  unfold triV; rw [if_neg (by rw [h1]; decide), if_neg (by rw [h2]; decide)]; exact if_neg h

theorem implTri_b (n : Int) (A : Option Addr) (c : Nat) (es : List (Int × Int)) (a b d : Int) (w : World) (hl : es.length ≤ 1048576) (hr : RdE w A es) (N : Int) (rs : List (Int × Int)) (r : Int) (R0 : Hid ((triV n es a b d).1 = N)) (R1 : Hid ((triV n es a b d).2.1 = rs)) (R2 : Hid ((triV n es a b d).2.2 = r)) :
    Calls Try.prog 13 #[.agg #[.int .i64 n, .slice A es.length c], .int .i64 a, .int .i64 b, .int .i64 d] w fun e w' => RetG w' w.heap.size e N rs r ∧ Below w.heap.size w w' := by
  by_cases hg : isGraphB n es = true
  · have hn := isGraphB_n hg
    have e1 : wrap64 (n - 1) = n - 1 := wrap64_small (by omega) (by omega)
    have h30 := isGraphB_len hg
    by_cases hv : (inB a 0 (n - 1) && inB b 0 (n - 1) && inB d 0 (n - 1)) = true
    · have hv3 := hv
      simp only [Bool.and_eq_true] at hv3
      obtain ⟨⟨ha, hb⟩, hd⟩ := hv3
      have ba := inB_true.1 ha
      have bb := inB_true.1 hb
      have bd := inB_true.1 hd
      have hin := isGraphB_in hg
      by_cases hs : badT es a b d
      · rw [triV_s hg hv hs] at R0 R1 R2
        obtain rfl : 0 = N := R0.out
        obtain rfl : [] = rs := R1.out
        obtain rfl : 5 = r := R2.out
        refine implTri_state n A c es a b d w n.toNat (by omega) (by omega) hin hr hg (by show _ = _; rw [e1]; exact ha) (by show _ = _; rw [e1]; exact hb) (by show _ = _; rw [e1]; exact hd) (by omega) ?_
        unfold badT at hs
        by_cases h1 : a = b
        · exact .inl h1
        by_cases h2 : a = d
        · exact .inr (.inl ⟨h1, h2⟩)
        by_cases h3 : b = d
        · exact .inr (.inr (.inl ⟨h1, h2, h3⟩))
        by_cases h4 : joinN es a b = 1
        · by_cases h5 : joinN es a d = 1
          · by_cases h6 : joinN es b d = 1
            · exact absurd hs (by simp [h1, h2, h3, h4, h5, h6])
            · exact .inr (.inr (.inr (.inr (.inr ⟨h1, h2, h3, h4, h5, h6⟩))))
          · exact .inr (.inr (.inr (.inr (.inl ⟨h1, h2, h3, h4, h5⟩))))
        · exact .inr (.inr (.inr (.inl ⟨h1, h2, h3, h4⟩)))
      · rw [triV_y hg hv hs] at R0 R1 R2
        obtain rfl : n - 2 = N := R0.out
        obtain rfl : madeE (trL (setN [a, b, d]) (min a (min b d)).toNat es) = rs := R1.out
        obtain rfl : 0 = r := R2.out
        have hs2 : a ≠ b ∧ a ≠ d ∧ b ≠ d ∧ joinN es a b = 1 ∧ joinN es a d = 1 ∧ joinN es b d = 1 := by
          unfold badT at hs
          simp only [not_or, Decidable.not_not] at hs
          exact hs
        obtain ⟨a', rfl⟩ : ∃ x : Nat, a = x := ⟨a.toNat, by omega⟩
        obtain ⟨b', rfl⟩ : ∃ x : Nat, b = x := ⟨b.toNat, by omega⟩
        obtain ⟨d', rfl⟩ : ∃ x : Nat, d = x := ⟨d.toNat, by omega⟩
        obtain ⟨h1, h2, h3, h4, h5, h6⟩ := hs2
        obtain ⟨l, Hl⟩ : ∃ l : Nat, min (a' : Int) (min (b' : Int) (d' : Int)) = (l : Int) := ⟨(min (a' : Int) (min (b' : Int) (d' : Int))).toNat, by omega⟩
        rw [Hl, Int.toNat_natCast]
        exact implTri_yes n A c es a' b' d' w n.toNat l (by omega) (by omega) (by omega) hin hr hg (by show _ = _; rw [e1]; exact ha) (by show _ = _; rw [e1]; exact hb) (by show _ = _; rw [e1]; exact hd) (by omega) (by omega) (by omega) (by omega) h4 h5 h6 Hl (trL_pos hg (tri_bits a' b' d') ha h4 h5)
    · have hv' : (inB a 0 (n - 1) && inB b 0 (n - 1) && inB d 0 (n - 1)) = false := by simpa using hv
      rw [triV_v hg hv'] at R0 R1 R2
      obtain rfl : 0 = N := R0.out
      obtain rfl : [] = rs := R1.out
      obtain rfl : 2 = r := R2.out
      refine implTri_code n A c es a b d w hl hr true (inB a 0 (n - 1)) (inB b 0 (n - 1)) (inB d 0 (n - 1)) hg (by show _ = _; rw [e1]) (by show _ = _; rw [e1]) (by show _ = _; rw [e1]) 2 ?_ (by decide)
      rw [Bool.and_assoc] at hv'
      rw [hv']; rfl
  · have hg' : isGraphB n es = false := by simpa using hg
    rw [triV_g hg'] at R0 R1 R2
    obtain rfl : 0 = N := R0.out
    obtain rfl : [] = rs := R1.out
    obtain rfl : 1 = r := R2.out
    exact implTri_code n A c es a b d w hl hr false (inB a 0 (wrap64 (n - 1))) (inB b 0 (wrap64 (n - 1))) (inB d 0 (wrap64 (n - 1))) hg' rfl rfl rfl 1 rfl (by decide)

theorem specTri_b (n : Int) (A : Option Addr) (c : Nat) (es : List (Int × Int)) (a b d : Int) (w : World) (hl : es.length ≤ 1048576) (hr : RdE w A es) (N : Int) (rs : List (Int × Int)) (r : Int) (R0 : Hid ((triV n es a b d).1 = N)) (R1 : Hid ((triV n es a b d).2.1 = rs)) (R2 : Hid ((triV n es a b d).2.2 = r)) :
    Calls Try.prog 12 #[.agg #[.int .i64 n, .slice A es.length c], .int .i64 a, .int .i64 b, .int .i64 d] w fun e w' => RetG w' w.heap.size e N rs r ∧ Below w.heap.size w w' := by
  have a1 : [a, b, d].all (fun v => inB v 0 (n - 1)) = (inB a 0 (n - 1) && inB b 0 (n - 1) && inB d 0 (n - 1)) := by
    simp [Bool.and_assoc]
  by_cases hg : isGraphB n es = true
  · have hn := isGraphB_n hg
    have h30 := isGraphB_len hg
    by_cases hv : (inB a 0 (n - 1) && inB b 0 (n - 1) && inB d 0 (n - 1)) = true
    · have hv3 := hv
      simp only [Bool.and_eq_true] at hv3
      obtain ⟨⟨ha, hb⟩, hd⟩ := hv3
      have ba := inB_true.1 ha
      have bb := inB_true.1 hb
      have bd := inB_true.1 hd
      have ju : ∀ x y : Int, x ≠ y → (joinN es x y = 1 ↔ joinC es x y es.length = 1) := fun x y hxy => by
        have := joinN_C hg hxy
        omega
      by_cases hs : badT es a b d
      · rw [triV_s hg hv hs] at R0 R1 R2
        obtain rfl : 0 = N := R0.out
        obtain rfl : [] = rs := R1.out
        obtain rfl : 5 = r := R2.out
        refine specTri_err n A c es a b d w hl hr true true hg (a1.trans hv) _ _ _ rfl rfl rfl 5 (.inr ⟨rfl, rfl, ?_⟩)
        unfold badT at hs
        by_cases h1 : a = b
        · exact .inl h1
        by_cases h3 : b = d
        · exact .inr (.inl ⟨h1, h3⟩)
        by_cases h2 : a = d
        · exact .inr (.inr (.inl ⟨h1, h3, h2⟩))
        rw [ne_eq, ne_eq, ne_eq, ju a b h1, ju a d h2, ju b d h3] at hs
        by_cases h4 : joinC es a b es.length = 1
        · by_cases h6 : joinC es b d es.length = 1
          · by_cases h5 : joinC es a d es.length = 1
            · exact absurd hs (by simp [h1, h2, h3, h4, h5, h6])
            · exact .inr (.inr (.inr (.inr (.inr ⟨h1, h3, h2, h4, h6, h5⟩))))
          · exact .inr (.inr (.inr (.inr (.inl ⟨h1, h3, h2, h4, h6⟩))))
        · exact .inr (.inr (.inr (.inl ⟨h1, h3, h2, h4⟩)))
      · rw [triV_y hg hv hs] at R0 R1 R2
        obtain rfl : n - 2 = N := R0.out
        obtain rfl : madeE (trL (setN [a, b, d]) (min a (min b d)).toNat es) = rs := R1.out
        obtain rfl : 0 = r := R2.out
        have hs2 : a ≠ b ∧ a ≠ d ∧ b ≠ d ∧ joinN es a b = 1 ∧ joinN es a d = 1 ∧ joinN es b d = 1 := by
          unfold badT at hs
          simp only [not_or, Decidable.not_not] at hs
          exact hs
        obtain ⟨h1, h2, h3, h4, h5, h6⟩ := hs2
        rw [ju a b h1] at h4
        rw [ju a d h2] at h5
        rw [ju b d h3] at h6
        obtain ⟨l, Hl⟩ : ∃ l : Nat, min a (min b d) = (l : Int) := ⟨(min a (min b d)).toNat, by omega⟩
        rw [Hl, Int.toNat_natCast]
        obtain ⟨n', rfl⟩ : ∃ x : Nat, n = x := ⟨n.toNat, by omega⟩
        have hm : madeE (tsL (setN [a, b, d]) l es [a, b, d]) = madeE (trL (setN [a, b, d]) l es) := by
          obtain ⟨a', rfl⟩ : ∃ x : Nat, a = x := ⟨a.toNat, by omega⟩
          obtain ⟨b', rfl⟩ : ∃ x : Nat, b = x := ⟨b.toNat, by omega⟩
          obtain ⟨d', rfl⟩ : ∃ x : Nat, d = x := ⟨d.toNat, by omega⟩
          refine tr_made hg (tri_bits a' b' d') (by omega) (by omega) (by omega) (by omega) (fun i hi => ?_) ?_
          · rw [tri_bits]
            simp only [Bool.or_eq_false_iff, decide_eq_false_iff_not]
            omega
          · rw [tri_bits]
            simp only [Bool.or_eq_true, decide_eq_true_eq]
            omega
        rw [← hm]
        exact specTri_yes n' A c es a b d w l (by omega) hr hg (a1.trans hv) h4 h6 h5 h1 h3 h2 Hl
    · have hv' : (inB a 0 (n - 1) && inB b 0 (n - 1) && inB d 0 (n - 1)) = false := by simpa using hv
      rw [triV_v hg hv'] at R0 R1 R2
      obtain rfl : 0 = N := R0.out
      obtain rfl : [] = rs := R1.out
      obtain rfl : 2 = r := R2.out
      exact specTri_err n A c es a b d w hl hr true false hg (a1.trans hv') _ _ _ rfl rfl rfl 2 (.inl ⟨rfl, by decide⟩)
  · have hg' : isGraphB n es = false := by simpa using hg
    rw [triV_g hg'] at R0 R1 R2
    obtain rfl : 0 = N := R0.out
    obtain rfl : [] = rs := R1.out
    obtain rfl : 1 = r := R2.out
    exact specTri_err n A c es a b d w hl hr false _ hg' rfl _ _ _ rfl rfl rfl 1 (.inl ⟨by simp [gcode], by decide⟩)
end Go.Proofs.Ytjgmoffkecnmcaa
