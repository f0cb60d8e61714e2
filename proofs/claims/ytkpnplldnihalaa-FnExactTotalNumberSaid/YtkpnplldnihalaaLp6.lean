/- The reference's l08Fill: the walk. -/
import Derived.Test.YtkpnplldnihalaaLp5
namespace Go.Proofs.Ytkpnplldnihalaa
open Go.RowKit
set_option linter.unusedSimpArgs false
set_option linter.unusedVariables false
set_option maxRecDepth 20000

/-- Rows that are not 0. -/
def areM (M : Nat → Nat → Int) (i j : Nat) : Bool := !decide (M i j = 0)

open Go.Maps in
theorem wpList_append_ownG {P : Program} {w : World} {ops : Array Oper} {rest : List Oper} {o : Oper} {a : Act} {Q : Exit → Act → World → Prop} (hw : Region.wanted o (yielded ops a.tmps) = true) (s x : Operand) (t : TypeId)
    (ho : o.op = .call { callee := .builtin .append, args := #[s, x], argTypes := #[t, t] })
    (base : Nat) (e : TypeId) (i : TypeInfo) (z : Value) (size bytes : Nat) (ht : P.underlying t = some (.slice e)) (hi : P.info? e = some i) (hz : i.zero = some z)
    (hsize : i.size = size) (hby : i.bytes = bytes) (hzs : z.cells.size = size) (hsz : 0 < size)
    (v : Value) (n : Nat) (xs : List Value) (hs : a.eval s = v) (hown : w.ownsRow base e size v n xs)
    (ad : Addr) (m c : Nat) (news : List Value) (hx : a.eval x = .slice (some ad) m c) (hl : news.length = m * size) (hnews : ∀ j u, news[j]? = some u → w.cell? (ad.add j) = some u) (h1 : ∀ u ∈ news, u.oneCell' = true)
    (h63 : n + m ≤ maxLen) (hbytes : (n + m) * bytes ≤ 140737488355328) (hbase : base ≤ w.heap.size)
    (h : ∀ v' w', w'.ownsRow base e size v' (n + m) (xs ++ news) → w.grownBy w' v.ownBlock → (v' = .slice none 0 0 ↔ v = .slice none 0 0 ∧ m = 0) → wpList P ops Q rest (a.put o.dst v') w') : wpList P ops Q (o :: rest) a w :=
  wpList_step fun K hK => by
    rw [if_pos hw]
    exact wp_append_own w s x t ho base e i z size bytes ht hi hz hsize hby hzs hsz v n xs hs hown ad m c news hx hl hnews h1 h63 hbytes hbase fun v' w' h2 h3 h4 => hK _ _ (h v' w' h2 h3 h4)

set_option maxHeartbeats 8000000 in
theorem fill_b (g off c T : Nat) (R : Nat → Nat) (M : Nat → Nat → Int) (k : Int) (w0 : World) (hk : 1 ≤ k ∧ k ≤ 1000) (hT : T ≤ 1000) (hM : Hid (∀ W, Below w0.heap.size w0 W → Mat W g off T T R M)) :
    ∀ (r i b o cl : Nat) (pre : List Int) (W : World), i + r = T → Hid (pre.length = i) → Hid (RdI W (some ⟨b, o, none⟩) pre) → Hid (∀ j, j < i → 0 ≤ pre.getD j 0 ∧ pre.getD j 0 < k) → Hid (Below w0.heap.size w0 W) →
      Calls Try.prog 120 #[.slice (some ⟨g, off, none⟩) T c, .int .i64 k, .slice (some ⟨b, o, none⟩) i cl] W fun e w' => e = .returned (.bool (fillO (areM M) (fun x y => decide (x = y)) (candF k) r pre).isSome) ∧ Below W.heap.size W w' := by
  obtain ⟨i0, hi0, hz0, hz1, hz2⟩ := info_parts infoI
  intro r
  induction r with
  | zero =>
    intro i b o cl pre W hi hp hrd hin hW
    obtain rfl : i = T := by omega
    clear hM hin hrd
    go_enter Try.func120, Try.ntmps120
    go_wp2
    go_ret
    exact ⟨rfl, Below.refl _ _⟩
  | succ r ih =>
    intro i b o cl pre W hi hp hrd hin hW
    have hiT : i < T := by omega
    have m1 : ((i : Int) == (T : Int)) = false := by simp; omega
    have Hcell : Hid (∀ W', Below W.heap.size W W' → ∀ j, j < i → W'.cell? ⟨b, o + j, none⟩ = some (.int .i64 (pre.getD j 0))) := fun W' hW' j hj => by
      obtain ⟨b2, o2, e, hb, hc⟩ := (hrd.out.below hW').pos (by rw [hp.out]; omega)
      injection e with e; injection e with e1 e2 _; subst e1; subst e2
      exact hc j (by rw [hp.out]; exact hj)
    obtain ⟨f, Hf⟩ : ∃ f : Nat → Option (List Int), Hid (f = fun x : Nat => if fitsB (areM M) (fun x y => decide (x = y)) pre (x : Int) = true then fillO (areM M) (fun x y => decide (x = y)) (candF k) r (pre ++ [(x : Int)]) else none) := ⟨_, rfl⟩
    obtain ⟨cc, Hcc⟩ : ∃ cc, Hid (candF k pre = cc) := ⟨_, rfl⟩
    have Hres : Hid (fillO (areM M) (fun x y => decide (x = y)) (candF k) (r + 1) pre = (List.range cc).findSome? f) := by show _ = _; rw [fillO, Hcc.out, Hf.out]
    have Hmb : Hid (∀ j, j ≤ i → -1 ≤ mostL (pre.take j) ∧ mostL (pre.take j) ≤ 1000) := fun j hj => by
      refine ⟨mostL_ge _, ?_⟩
      have := mostL_le (pre := pre.take j) (c := k - 1) (by omega) (fun n hn => by
        have hn2 : n < j := by rw [List.length_take] at hn; omega
        have h9 := hin.out n (by omega)
        have e : (pre.take j).getD n 0 = pre.getD n 0 := by simp [List.getD, List.getElem?_take, hn2]
        rw [e]; omega)
      omega
    have Hall : Hid (mostL (pre.take i) = mostL pre) := by show _ = _; rw [List.take_of_length_le (by rw [hp.out]; exact Nat.le_refl _)]
    go_enter Try.func120, Try.ntmps120
    go_wp2
    go_loopw [7, 8] (fun mv jv wr => ∃ j : Nat, j ≤ i ∧ jv = .int .i64 j ∧ mv = .int .i64 (mostL (pre.take j) + 1) ∧ W = wr) (fun _ jv _ => i - (intOf jv).toNat)
    case atStart => exact ⟨0, Nat.zero_le _, rfl, rfl, rfl⟩
    case round =>
      obtain ⟨j, hj, rfl, rfl, rfl⟩ := hrel
      obtain ⟨mb1, mb2⟩ := Hmb.out j hj
      by_cases hlt : j < i
      · have hc := Hcell.out W (Below.refl _ _) j hlt
        obtain ⟨p1, p2⟩ := hin.out j hlt
        have Hn := Lib.hid (mostL_take (pre := pre) (show j < pre.length by rw [hp.out]; exact hlt))
        obtain ⟨u, Hu⟩ : ∃ u, Hid (pre.getD j 0 = u) := ⟨_, rfl⟩
        rw [Hu.out] at hc p1 p2 Hn
        obtain ⟨m, Hm⟩ : ∃ m, Hid (mostL (pre.take j) = m) := ⟨_, rfl⟩
        rw [Hm.out] at mb1 mb2 Hn ⊢
        by_cases hmu : m + 1 < u + 1
        · go_wp2
          refine ⟨⟨j + 1, by omega, by go_num, ?_, trivial⟩, by simp [intOf]; omega⟩
          rw [Hn.out]; congr 1; omega
        · go_wp2
          refine ⟨⟨j + 1, by omega, by go_num, ?_, trivial⟩, by simp [intOf]; omega⟩
          rw [Hn.out]; congr 1; omega
      · obtain rfl : j = i := by omega
        rw [Hall.out] at mb1 mb2 ⊢
        obtain ⟨m, Hm⟩ : ∃ m, Hid (mostL pre = m) := ⟨_, rfl⟩
        have hcc : Hid ((cc : Int) = min k (m + 2)) := by show _ = _; rw [← Hcc.out, ← Hm.out, candF]; have := mostL_ge pre; omega
        have hcc2 : cc ≤ 1000 := by have := hcc.out; omega
        rw [Hm.out] at mb1 mb2 ⊢
        go_wp2
        go_loopw [9] (fun s wr => ∃ x : Nat, x ≤ cc ∧ s = .int .i64 x ∧ Hid ((List.range x).findSome? f = none) ∧ Hid (Below W.heap.size W wr)) (fun s _ => cc - (intOf s).toNat)
        case atStart => exact ⟨0, Nat.zero_le _, rfl, rfl, Below.refl _ _⟩
        case round =>
          obtain ⟨x, hx, rfl, Hnone, Hb⟩ := hrel
          by_cases hxc : x < cc
          · have t1 : (x : Int) < k := by have := hcc.out; omega
            have t2 : (x : Int) ≤ m + 1 := by have := hcc.out; omega
            obtain ⟨wo, rfl⟩ : ∃ wo : World, wo = wr := ⟨_, rfl⟩
            go_wp2
            go_loopw [10, 11] (fun fv jv w3 => ∃ n : Nat, n ≤ j ∧ jv = .int .i64 n ∧ fv = .bool (fitTo M pre j x n) ∧ wo = w3) (fun _ jv _ => j - (intOf jv).toNat)
            case atStart => exact ⟨0, Nat.zero_le _, rfl, rfl, rfl⟩
            case round =>
              obtain ⟨n, hn, rfl, rfl, rfl⟩ := hrel
              have Hfx : Hid (f x = if fitTo M pre j x j = true then fillO (areM M) (fun x y => decide (x = y)) (candF k) r (pre ++ [(x : Int)]) else none) := by
                show _ = _
                have h9 := fitTo_fits (M := M) (pre := pre) (x := (x : Int))
                rw [hp.out] at h9
                rw [Hf.out, h9]
                rfl
              obtain ⟨q, Hq⟩ : ∃ q, Hid (fitTo M pre j x n = q) := ⟨_, rfl⟩
              have Hnx := Lib.hid (fitTo_next M pre j x n)
              rw [Hq.out] at Hnx
              rw [Hq.out]
              cases q
              · have hfx : f x = none := by rw [Hfx.out, fitTo_false hn Hq.out]; rfl
                have Hfn := Lib.hid hfx; clear hfx
                by_cases hlt2 : n < j
                · go_wp2
                  refine ⟨⟨x + 1, by omega, by go_num, fill_next Hf.out Hnone.out Hfn.out, Hb⟩, by simp [intOf]; omega⟩
                · obtain rfl : n = j := by omega
                  go_wp2
                  refine ⟨⟨x + 1, by omega, by go_num, fill_next Hf.out Hnone.out Hfn.out, Hb⟩, by simp [intOf]; omega⟩
              · by_cases hlt2 : n < j
                · have hm := hM.out wo (hW.out.trans (Hb.out.mono hW.out.size))
                  have g1 := hm.head j hiT
                  have g2 := hm.cell j hiT n (by omega)
                  have g3 := Hcell.out wo Hb.out n hlt2
                  obtain ⟨u, Hu⟩ : ∃ u, Hid (M j n = u) := ⟨_, rfl⟩
                  obtain ⟨v, Hv⟩ : ∃ v, Hid (pre.getD n 0 = v) := ⟨_, rfl⟩
                  rw [Hu.out] at g2 Hnx
                  rw [Hv.out] at g3 Hnx
                  clear hm
                  by_cases hu : u = 0
                  · subst hu
                    go_wp2
                    clear g1 g2 g3
                    refine ⟨⟨n + 1, by omega, by go_num, ?_, trivial⟩, by simp [intOf]; omega⟩
                    rw [Hnx.out]; rfl
                  · have u1 : (u == 0) = false := by simpa using hu
                    by_cases hv : v = x
                    · have v1 : (v != (x : Int)) = false := by simpa using hv
                      have e1 : Hid (decide (u = 0) = false) := by show _ = _; simpa using hu
                      have e2 : Hid (decide (v = (x : Int)) = true) := by show _ = _; simpa using hv
                      clear hu hv
                      go_wp2
                      clear g1 g2 g3
                      refine ⟨⟨n + 1, by omega, by go_num, ?_, trivial⟩, by simp [intOf]; omega⟩
                      rw [Hnx.out, e1.out, e2.out]; rfl
                    · have v1 : (v != (x : Int)) = true := by simpa using hv
                      have e1 : Hid (decide (u = 0) = false) := by show _ = _; simpa using hu
                      have e2 : Hid (decide (v = (x : Int)) = false) := by show _ = _; simpa using hv
                      clear hu hv
                      go_wp2
                      clear g1 g2 g3
                      refine ⟨⟨n + 1, by omega, by go_num, ?_, trivial⟩, by simp [intOf]; omega⟩
                      rw [Hnx.out, e1.out, e2.out]; rfl
                · obtain rfl : n = j := by omega
                  have Hfo : Hid (f x = fillO (areM M) (fun x y => decide (x = y)) (candF k) r (pre ++ [(x : Int)])) := by show _ = _; rw [Hfx.out, Hq.out]; rfl
                  obtain ⟨oo, Hoo⟩ : ∃ oo, Hid (fillO (areM M) (fun x y => decide (x = y)) (candF k) r (pre ++ [(x : Int)]) = oo) := ⟨_, rfl⟩
                  rw [Hoo.out] at Hfo
                  have c1 := l01Own2_b b o cl pre wo (by rw [hp.out]; omega) (hrd.out.below Hb.out)
                  rw [hp.out] at c1
                  go_wp2_with fail
                  refine c1.mono ?_
                  rintro e w4 ⟨A4, c4, rfl, hown4, hb4⟩
                  clear c1
                  have hown5 := own_below hown4 (Below.alloc (Below.refl _ _) (Nat.le_refl _) (.cells #[.int .i64 (x : Int)] 2))
                  have hs4 := hb4.size
                  go_wp2_with (first
                    | (at_builtin; refine wpList_append_ownG (by rfl) _ _ 36 rfl wo.heap.size 2 i0 (.int .i64 0) 1 8 Try.underlying36 hi0 hz0 hz1 hz2 rfl (by decide) _ _ _ rfl hown5 ⟨w4.heap.size, 0, none⟩ 1 1 [.int .i64 (x : Int)] rfl rfl ?c1 ?c2 ?c3 ?c4 ?c5 ?_))
                  case c1 =>
                    intro j u hj
                    match j, hj with
                    | 0, hj => simp at hj; subst hj; simp [Addr.add]
                  case c2 => intro u hu; simp at hu; subst hu; rfl
                  case c3 => unfold maxLen; omega
                  case c4 => omega
                  case c5 => simp; omega
                  intro v' w5 hown' hgrow _
                  have hb5 : Below wo.heap.size wo w5 := own_grown_below (hb4.alloc hs4 _) hown5 hgrow (by simp; omega)
                  have hown6 := own_snocI hown' (rfl : pre ++ [(x : Int)] = pre ++ [(x : Int)])
                  obtain ⟨g5, c5, rfl, _, _⟩ := own_someI hown6 (by omega)
                  have Hr5 : Hid (RdI w5 (some ⟨g5, 0, none⟩) (pre ++ [(x : Int)])) := own_rdI hown6
                  have Hb5 : Hid (Below W.heap.size W w5) := Hb.out.trans (hb5.mono Hb.out.size)
                  have hin5 : Hid (∀ a, a < n + 1 → 0 ≤ (pre ++ [(x : Int)]).getD a 0 ∧ (pre ++ [(x : Int)]).getD a 0 < k) := fun a ha => by
                    by_cases e : a = n
                    · subst e
                      have g : (pre ++ [(x : Int)]).getD a 0 = x := by rw [← hp.out]; simp [List.getD]
                      rw [g]; omega
                    · have := hin.out a (by omega)
                      have g : (pre ++ [(x : Int)]).getD a 0 = pre.getD a 0 := by simp [List.getD, List.getElem?_append_left (show a < pre.length by rw [hp.out]; omega)]
                      rw [g]; exact this
                  have HW5 : Hid (Below w0.heap.size w0 w5) := hW.out.trans (Hb5.out.mono hW.out.size)
                  have ih2 := ih (n + 1) g5 0 c5 (pre ++ [(x : Int)]) w5 (by omega) (by show _ = _; simp [hp.out]) Hr5 hin5 HW5
                  rw [Hoo.out] at ih2
                  clear hown' hgrow hown5 hown4 hown6 hb4 hb5 hs4 ih
                  go_wp2_with fail
                  refine ih2.mono ?_
                  rintro e w6 ⟨rfl, hb6⟩
                  have Hb6 : Hid (Below W.heap.size W w6) := Hb5.out.trans (hb6.mono Hb5.out.size)
                  clear hb6 ih2
                  cases oo with
                  | none =>
                    have ob : (none : Option (List Int)).isSome = false := rfl
                    rw [ob]
                    go_wp2
                    refine ⟨⟨x + 1, by omega, by go_num, fill_next Hf.out Hnone.out Hfo.out, Hb6⟩, by simp [intOf]; omega⟩
                  | some xs =>
                    have ob : (some xs : Option (List Int)).isSome = true := rfl
                    rw [ob]
                    have hff := fill_found hxc Hnone.out Hfo.out
                    have Hff := Lib.hid hff; clear hff
                    go_wp2
                    go_ret
                    exact ⟨by rw [Hres.out, Hff.out]; rfl, Hb6.out⟩
          · obtain rfl : x = cc := by omega
            have t1 : Hid (¬ ((x : Int) < k ∧ (x : Int) ≤ m + 1)) := by show ¬ _; have := hcc.out; omega
            by_cases t2 : (x : Int) < k
            · have t3 : ¬ ((x : Int) ≤ m + 1) := fun h => t1.out ⟨t2, h⟩
              go_wp2
              go_ret
              exact ⟨by rw [Hres.out, Hnone.out]; rfl, Hb.out⟩
            · go_wp2
              go_ret
              exact ⟨by rw [Hres.out, Hnone.out]; rfl, Hb.out⟩
end Go.Proofs.Ytkpnplldnihalaa
