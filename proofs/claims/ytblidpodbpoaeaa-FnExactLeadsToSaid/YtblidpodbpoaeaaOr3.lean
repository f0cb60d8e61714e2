/- Lists that are renumberings: the reference's l10Is. No statement of the program is proved here. -/
import Derived.Test.YtblidpodbpoaeaaOr1
import Derived.Test.YtblidpodbpoaeaaSp1
namespace Go.Proofs.Ytblidpodbpoaeaa
open Go.RowKit
set_option linter.unusedSimpArgs false
set_option linter.unusedVariables false
set_option maxRecDepth 20000

theorem infoB : (Try.prog.info? 4).map (fun i => (i.zero, i.size, i.bytes)) = some (some (.bool false), 1, 1) := by kernel_rfl
/-- Which of the numbers below n p says yes to. -/
def boolA (p : Nat → Bool) (n : Nat) : Array Value := ((List.range n).map fun i => Value.bool (p i)).toArray
theorem boolA_size (p : Nat → Bool) (n : Nat) : (boolA p n).size = n := by simp [boolA]
theorem boolA_get {p : Nat → Bool} {n i : Nat} (h : i < n) : (boolA p n)[i]? = some (.bool (p i)) := by simp [boolA, h]
theorem boolA_set {p p' : Nat → Bool} {n i : Nat} (h : i < n) (b : Bool) (hp : ∀ j, j < n → p' j = if j = i then b else p j) : (boolA p n).setIfInBounds i (.bool b) = boolA p' n := by
  apply Array.ext
  · simp [boolA_size]
  · intro j h1 h2
    rw [Array.size_setIfInBounds, boolA_size] at h1
    have e1 : (boolA p' n)[j] = .bool (p' j) := by simp [boolA]
    rw [e1, hp j h1, Array.getElem_setIfInBounds (by rw [boolA_size]; exact h1)]
    by_cases hj : i = j
    · subst hj; simp
    · rw [if_neg hj, if_neg (Ne.symm hj)]; simp [boolA]
theorem boolA_zero (n : Nat) : boolA (fun _ => false) n = (List.replicate n (Value.bool false)).toArray := by
  unfold boolA; congr 1
  apply List.ext_getElem <;> simp

set_option maxHeartbeats 4000000 in
theorem l10Is_b (A : Option Addr) (c : Nat) (xs : List Int) (m : Nat) (w : World) (q : Bool) (hq : Hid (permB xs m = q)) (hm : 1 ≤ m ∧ m ≤ 20) (hl : xs.length ≤ 1048576) (hr : RdI w A xs) :
    Calls Try.prog 69 #[.slice A xs.length c, .int .i64 m] w fun e w' => e = .returned (.bool q) ∧ Below w.heap.size w w' := by
  by_cases hlm : xs.length = m
  · have hmk := mk_row Try.underlying91 infoB m (by omega) (by omega)
    simp only [made_bool] at hmk
    rw [← boolA_zero] at hmk
    have Hre : Hid (∀ W, Below w.heap.size w W → RdI W A xs) := fun W hW => hr.below hW
    obtain ⟨L, HL⟩ : ∃ L, Hid (xs.length = L) := ⟨_, rfl⟩
    have hmL : Hid (m = L) := by show _ = _; rw [← HL.out, hlm]
    rw [HL.out] at hl ⊢
    have e0 : ((L : Int) != (m : Int)) = false := by have := hmL.out; simp; omega
    have Hm := Lib.hid hm
    have hwm : wrap64 ((m : Int) - 1) = (m : Int) - 1 := wrap64_small (by omega) (by omega)
    clear hr hlm hm
    go_enter Try.func69, Try.ntmps69
    go_wp2
    try simp only [hwm]
    go_loopw [6] (fun i wr => ∃ k : Nat, k ≤ L ∧ i = .int .i64 k ∧ Hid (∀ x ∈ xs.take k, inB x 0 ((m : Int) - 1) = true) ∧ Hid ((xs.take k).Nodup) ∧ Hid (Blk wr w.heap.size 4 (boolA (fun i => decide ((i : Int) ∈ xs.take k)) m)) ∧ Hid (Below w.heap.size w wr)) (fun i _ => L - (intOf i).toNat)
    case atStart => exact ⟨0, Nat.zero_le _, rfl, fun x hx => by simp at hx, by show List.Nodup _; simp, by { show Blk _ _ _ _; simpa using Blk.new w 4 (boolA (fun _ => false) m) }, by show Below _ _ _; (repeat' (first | (with_reducible exact Below.refl _ _) | (with_reducible assumption) | (with_reducible refine Below.alloc ?_ ?_ _) | (with_reducible refine Below.drew ?_) | (with_reducible refine below_drewN ?_ _) | (with_reducible refine Below.setCell ?_ ?_ _) | (with_reducible refine Below.trans ?_ (Below.mono (by assumption) ?_)) | (first | omega | (simp only [World.size_alloc, World.size_setCell, World.size_drew]; omega) | (simp; omega) | (simp; done))))⟩
    case round =>
      obtain ⟨k, hk, rfl, Hin, Hnd, HB, Hbel⟩ := hrel
      have hsz := HB.out.lt
      by_cases hlt : k < L
      · obtain ⟨b, off, rfl, hb, hc⟩ := (Hre.out wr Hbel.out).pos (by rw [HL.out]; omega)
        have hck := hc k (by rw [HL.out]; exact hlt)
        obtain ⟨x, Hx⟩ : ∃ x, Hid (xs.getD k 0 = x) := ⟨_, rfl⟩
        rw [Hx.out] at hck
        clear hc
        have Htk : Hid (xs.take (k + 1) = xs.take k ++ [x]) := by
          show _ = _
          have hk' : k < xs.length := by rw [HL.out]; exact hlt
          rw [List.take_add_one, List.getElem?_eq_getElem hk', ← Hx.out]; simp [List.getD, hk']
        have Hmem : Hid (x ∈ xs) := by
          show x ∈ xs
          rw [← Hx.out]; exact getD_mem (by rw [HL.out]; exact hlt)
        obtain ⟨ek, ek2, ek3⟩ := idxF k L hlt
        obtain ⟨q1, Hq1⟩ : ∃ q, Hid (inB x 0 ((m : Int) - 1) = q) := ⟨_, rfl⟩
        have ci := Lib.hid fun W => l01In_b x 0 ((m : Int) - 1) W q1 Hq1
        cases q1
        · have Hf : Hid (false = q) := by
            show _ = _
            rw [← hq.out, permB]
            have : xs.all (fun x => inB x 0 ((m : Int) - 1)) = false := by rw [List.all_eq_false]; exact ⟨x, Hmem.out, by rw [Hq1.out]; decide⟩
            rw [this]; simp
          go_wp2_with fail
          refine (ci.out _).mono ?_
          rintro e w1 ⟨rfl, rfl⟩
          go_wp2
          go_ret
          exact ⟨by rw [← Hf.out]; rfl, Hbel.out⟩
        · have hxb := inB_true.1 Hq1.out
          obtain ⟨u, Hu⟩ : ∃ u : Nat, Hid (x = u) := ⟨x.toNat, by show _ = _; omega⟩
          have hum : u < m := by have := Hu.out; omega
          rw [Hu.out] at hck
          rw [Hu.out] at ci Htk Hmem
          obtain ⟨eu, eu2, eu3⟩ := idxF u m hum
          clear hxb
          go_wp2_with fail
          refine (ci.out _).mono ?_
          rintro e w1 ⟨rfl, rfl⟩
          cases hd : decide ((u : Int) ∈ xs.take k)
          · have hcu : wr.cell? ⟨w.heap.size, u, none⟩ = some (.bool false) := by rw [← hd]; exact HB.out.cellAt u _ (boolA_get hum)
            have fu := HB.out.frozen u
            have Hset := Lib.hid (boolA_set (p := fun i => decide ((i : Int) ∈ xs.take k)) (p' := fun i => decide ((i : Int) ∈ xs.take (k + 1))) hum true fun j hj => by
              rw [Htk.out]
              by_cases h : j = u
              · subst h; simp
              · simp [h]; intro e; omega)
            have Hnd2 : Hid ((xs.take (k + 1)).Nodup) := by
              show List.Nodup _
              rw [Htk.out, List.nodup_append]
              refine ⟨Hnd.out, by simp, fun a ha b hb e => ?_⟩
              simp at hb
              subst hb
              subst e
              simp [ha] at hd
            have Hin2 : Hid (∀ x ∈ xs.take (k + 1), inB x 0 ((m : Int) - 1) = true) := fun y hy => by
              rw [Htk.out, List.mem_append] at hy
              rcases hy with hy | hy
              · exact Hin.out y hy
              · simp at hy; rw [hy, ← Hu.out]; exact Hq1.out
            clear Hq1 Hmem
            go_wp2
            exact ⟨⟨k + 1, by omega, by go_num, Hin2, Hnd2, by { show Blk _ _ _ _; rw [← Hset.out]; exact HB.out.set_ u (.bool true) }, Hbel.out.setCell (Nat.le_refl _) _⟩, by simp [intOf]; omega⟩
          · have hcu : wr.cell? ⟨w.heap.size, u, none⟩ = some (.bool true) := by rw [← hd]; exact HB.out.cellAt u _ (boolA_get hum)
            have Hf : Hid (false = q) := by
              show _ = _
              rw [← hq.out, permB]
              have hnn : ¬ xs.Nodup := fun hn => by
                have h1 : (xs.take (k + 1)).Nodup := hn.sublist (List.take_sublist _ _)
                rw [Htk.out, List.nodup_append] at h1
                have h2 := h1.2.2 u (by simpa using hd) u (by simp)
                exact h2 rfl
              simp [hnn]
            clear Hq1 Hmem
            go_wp2
            go_ret
            exact ⟨by rw [← Hf.out]; rfl, Hbel.out⟩
      · obtain rfl : k = L := by omega
        have Hf : Hid (true = q) := by
          show _ = _
          have h1 := Hin.out
          have h2 := Hnd.out
          rw [List.take_of_length_le (by rw [HL.out]; exact Nat.le_refl _)] at h1 h2
          rw [← hq.out, permB]
          have h3 : xs.all (fun x => inB x 0 ((m : Int) - 1)) = true := by rw [List.all_eq_true]; exact h1
          rw [h3]; simp [h2, HL.out, hmL.out]
        go_wp2
        go_ret
        exact ⟨by rw [← Hf.out]; rfl, Hbel.out⟩
  · have e0 : ((xs.length : Int) != (m : Int)) = true := by simpa using (show ¬ (xs.length : Int) = m by omega)
    obtain rfl : false = q := by rw [← hq.out]; simp [permB, hlm]
    clear hr hq hlm
    generalize xs.length = L at *
    go_enter Try.func69, Try.ntmps69
    go_wp2
    go_ret
    exact ⟨rfl, Below.refl _ _⟩
end Go.Proofs.Ytblidpodbpoaeaa
