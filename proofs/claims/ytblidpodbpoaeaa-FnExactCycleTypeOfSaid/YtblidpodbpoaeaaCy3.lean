/- The reference's CycleTypeOf. No statement of the program is proved here. -/
import Derived.Test.YtblidpodbpoaeaaCy1
import Derived.Test.YtblidpodbpoaeaaOr3
import Derived.Test.YtblidpodbpoaeaaMk1
import Derived.Test.YtblidpodbpoaeaaAp1
namespace Go.Proofs.Ytblidpodbpoaeaa
open Go.RowKit
set_option linter.unusedSimpArgs false
set_option linter.unusedVariables false
set_option maxRecDepth 20000

theorem rdI_take {w : World} {b off : Nat} {xs : List Int} (h : RdI w (some ⟨b, off, none⟩) xs) (k : Nat) : RdI w (some ⟨b, off, none⟩) (xs.take k) := by
  rcases h with h | ⟨b', off', e, hb, hc⟩
  · exact .inl (by rw [h]; simp)
  · refine .inr ⟨b', off', e, hb, fun j hj => ?_⟩
    rw [List.length_take] at hj
    have := hc j (by omega)
    rw [this]
    simp [List.getD, List.getElem?_take, show j < k by omega]
theorem rdI_drop {w : World} {b off : Nat} {xs : List Int} (h : RdI w (some ⟨b, off, none⟩) xs) (k : Nat) : RdI w (some ⟨b, off + k, none⟩) (xs.drop k) := by
  rcases h with h | ⟨b', off', e, hb, hc⟩
  · exact .inl (by rw [h]; simp)
  · injection e with e
    injection e with e1 e2 _
    subst e1; subst e2
    refine .inr ⟨b, off + k, rfl, hb, fun j hj => ?_⟩
    rw [List.length_drop] at hj
    have := hc (k + j) (by omega)
    rw [show off + k + j = off + (k + j) by omega, this]
    simp [List.getD, List.getElem?_drop]

open Go.Maps in
/-- Append of ints that can be read to a slice that the call owns. -/
theorem wp_appendI {o : Oper} {a : Act} {K : Act → World → Prop} {Q : Exit → Act → World → Prop} {w : World} {s x : Operand}
    (ho : o.op = .call { callee := .builtin .append, args := #[s, x], argTypes := #[43, 43] })
    (base : Nat) (v : Value) (n : Nat) (xs : List Int) (hs : a.eval s = v) (hown : w.ownsRow base 2 1 v n (cI xs))
    (b off m c : Nat) (news : List Int) (hx : a.eval x = .slice (some ⟨b, off, none⟩) m c) (hm : news.length = m) (hy : RdI w (some ⟨b, off, none⟩) news) (hn : n ≤ 1000000) (hm2 : m ≤ 1000000) (hbase : base ≤ w.heap.size)
    (h : ∀ v' w', w'.ownsRow base 2 1 v' (n + m) (cI (xs ++ news)) → (∀ B w0, B ≤ base → Below B w0 w → Below B w0 w') → K (a.put o.dst v') w') : o.wp Try.prog a w K Q := by
  obtain ⟨i0, hi0, hz0, hz1, hz2⟩ := info_parts infoI
  have hcell : ∀ j u, (cI news)[j]? = some u → w.cell? ((⟨b, off, none⟩ : Addr).add j) = some u := fun j u hj => by
    have hj2 : j < (cI news).length := (List.getElem?_eq_some_iff.1 hj).1
    rw [length_cI] at hj2
    obtain ⟨b2, off2, e, hb, hc⟩ := hy.pos (by omega)
    injection e with e
    injection e with e1 e2 _
    subst e1; subst e2
    rw [Addr.add_lit, hc j hj2, ← hj]
    simp [cI, List.getD, hj2]
  refine wp_append_own w s x _ ho base 2 i0 (.int .i64 0) 1 8 Try.underlying43 hi0 hz0 hz1 hz2 rfl (by decide) v n (cI xs) hs hown ⟨b, off, none⟩ m c (cI news) hx (by rw [length_cI, hm]; omega) hcell ?_ (by unfold maxLen; omega) (by omega) hbase ?_
  · intro u hu
    simp only [cI, List.mem_map] at hu
    obtain ⟨y, _, rfl⟩ := hu
    rfl
  · intro v' w' h1 h2 _
    have e9 : cI xs ++ cI news = cI (xs ++ news) := by simp [cI]
    rw [e9] at h1
    exact h v' w' h1 (fun B w0 hB hb => hb.trans (own_grown_below (Below.refl _ _) (own_mono hown hB) h2 (Nat.le_trans hB hbase)))
theorem wpList_appendI {ops : Array Oper} {rest : List Oper} {o : Oper} {a : Act} {Q : Exit → Act → World → Prop} {w : World} {s x : Operand} (hgd : o.guard = none)
    (ho : o.op = .call { callee := .builtin .append, args := #[s, x], argTypes := #[43, 43] })
    (base : Nat) (v : Value) (n : Nat) (xs : List Int) (hs : a.eval s = v) (hown : w.ownsRow base 2 1 v n (cI xs))
    (b off m c : Nat) (news : List Int) (hx : a.eval x = .slice (some ⟨b, off, none⟩) m c) (hm : news.length = m) (hy : RdI w (some ⟨b, off, none⟩) news) (hn : n ≤ 1000000) (hm2 : m ≤ 1000000) (hbase : base ≤ w.heap.size)
    (h : ∀ v' w', w'.ownsRow base 2 1 v' (n + m) (cI (xs ++ news)) → (∀ B w0, B ≤ base → Below B w0 w → Below B w0 w') → wpList Try.prog ops Q rest (a.put o.dst v') w') : wpList Try.prog ops Q (o :: rest) a w :=
  wpList_plain hgd fun _ hK => wp_appendI ho base v n xs hs hown b off m c news hx hm hy hn hm2 hbase fun v' w' h1 h2 => hK _ _ (h v' w' h1 h2)

theorem atD_stop {out : List Int} {c : Int} {k : Nat} (h : k = 0 ∨ c ≤ out.getD (k - 1) 0) : atD out c k = k := by
  cases k with
  | zero => rfl
  | succ k =>
    rw [atD, if_neg]
    rcases h with h | h
    · omega
    · rw [Nat.add_sub_cancel] at h; omega

set_option maxHeartbeats 4000000 in
/-- The errors. -/
theorem specCycle_err (A : Option Addr) (c : Nat) (xs : List Int) (w : World) (q1 q2 : Bool) (h1 : Hid (inB (xs.length : Int) 1 20 = q1)) (h2 : Hid (permB xs xs.length = q2)) (h : ¬ (q1 = true ∧ q2 = true)) (hl : xs.length ≤ 1048576) (hr : RdI w A xs) :
    Calls Try.prog 29 #[.slice A xs.length c] w fun e w' => RetI w' w.heap.size e [] (.int .i64 2) ∧ Below w.heap.size w w' := by
  have cw := Lib.hid fun W => l01In_b (xs.length : Int) 1 20 W q1 h1
  cases q1
  · clear hr h1 h2 h
    generalize xs.length = L at *
    go_enter Try.func29, Try.ntmps29
    go_wp2_with fail
    refine (cw.out _).mono ?_
    rintro e w1 ⟨rfl, rfl⟩
    go_wp2
    go_ret2
    exact ⟨⟨none, 0, rfl, .inl rfl⟩, Below.refl _ _⟩
  · obtain rfl : q2 = false := by cases q2 <;> simp_all
    have hb := inB_true.1 h1.out
    have co := Lib.hid (l10Is_b A c xs xs.length w false h2 (by omega) hl hr)
    clear hr h1 h2 h hb
    generalize xs.length = L at *
    go_enter Try.func29, Try.ntmps29
    go_wp2_with fail
    refine (cw.out _).mono ?_
    rintro e w1 ⟨rfl, rfl⟩
    go_wp2_with fail
    refine co.out.mono ?_
    rintro e w1 ⟨rfl, hb1⟩
    go_wp2
    go_ret2
    exact ⟨⟨none, 0, rfl, .inl rfl⟩, hb1⟩

set_option maxHeartbeats 8000000 in
/-- The cycle type. -/
theorem specCycle_yes (A : Option Addr) (c : Nat) (xs : List Int) (w : World) (h1 : Hid (inB (xs.length : Int) 1 20 = true)) (h2 : Hid (permB xs xs.length = true)) (hl : xs.length ≤ 1048576) (hr : RdI w A xs) :
    Calls Try.prog 29 #[.slice A xs.length c] w fun e w' => RetI w' w.heap.size e (cycS xs xs.length xs.length) (.int .i64 0) ∧ Below w.heap.size w w' := by
  have cw := Lib.hid fun W => l01In_b (xs.length : Int) 1 20 W true h1
  have hb := inB_true.1 h1.out
  have co := Lib.hid (l10Is_b A c xs xs.length w true h2 (by omega) hl hr)
  have Hre : Hid (∀ W, Below w.heap.size w W → RdI W A xs) := fun W hW => hr.below hW
  have hmk := mk_row Try.underlying91 infoB xs.length (by omega) (by omega)
  simp only [made_bool] at hmk
  rw [← boolA_zero] at hmk
  have hin0 := permB_in h2.out
  obtain ⟨L, HL⟩ : ∃ L, Hid (xs.length = L) := ⟨_, rfl⟩
  rw [HL.out] at cw co hin0 hb hmk ⊢
  have Hin : Hid (Inx xs L) := hin0
  have HLb : Hid (1 ≤ L ∧ L ≤ 20) := by show _ ∧ _; omega
  clear hr h1 h2 hb hl hin0
  go_enter Try.func29, Try.ntmps29
  go_wp2_with fail
  refine (cw.out _).mono ?_
  rintro e w1 ⟨rfl, rfl⟩
  go_wp2_with fail
  refine co.out.mono ?_
  rintro e w1 ⟨rfl, hb1⟩
  have Hb1 := Lib.hid hb1
  have s1 := hb1.size
  clear co cw hb1
  go_wp2_with fail
  clear hmk
  go_loopw [6, 7] (fun o i wr => ∃ v : Nat, v ≤ L ∧ i = .int .i64 v ∧ Hid (wr.ownsRow (w1.heap.size + 1) 2 1 o (cycS xs L v).length (cI (cycS xs L v))) ∧ Hid (∃ g c', o = .slice (some ⟨g, 0, none⟩) (cycS xs L v).length c') ∧ Hid (Blk wr w1.heap.size 4 (boolA (fun i => (cycO xs L v).1.testBit i) L)) ∧ Hid (Below w1.heap.size w1 wr)) (fun _ i _ => L - (intOf i).toNat)
  case atStart => exact ⟨0, Nat.zero_le _, rfl, own_blk (xs := []) (Blk.new' (n := w1.heap.size + 1) (t := 2) (cs := #[]) _ (by simp)) (by simp [cycS]) (by decide), ⟨_, _, rfl⟩, by { show Blk _ _ _ _; simpa [cycO] using (Blk.new w1 4 (boolA (fun _ => false) L)).alloc _ }, by show Below _ _ _; (repeat' (first | (with_reducible exact Below.refl _ _) | (with_reducible assumption) | (with_reducible refine Below.alloc ?_ ?_ _) | (with_reducible refine Below.drew ?_) | (with_reducible refine below_drewN ?_ _) | (with_reducible refine Below.setCell ?_ ?_ _) | (with_reducible refine Below.trans ?_ (Below.mono (by assumption) ?_)) | (first | omega | (simp only [World.size_alloc, World.size_setCell, World.size_drew]; omega) | (simp; omega) | (simp; done))))⟩
  case round =>
    obtain ⟨v, hv, rfl, Hown, Hsl, HB, Hbel⟩ := hrel
    obtain ⟨g0, c1, rfl⟩ := Hsl.out
    clear Hsl
    have hsz := HB.out.lt
    by_cases hlt : v < L
    · obtain ⟨ev, ev2, ev3⟩ := idxF v L hlt
      obtain ⟨S0, HS0⟩ : ∃ S, Hid ((cycO xs L v).1 = S) := ⟨_, rfl⟩
      obtain ⟨C, HC⟩ : ∃ S, Hid ((cyc xs (L + 1) S0 v).1 = S) := ⟨_, rfl⟩
      obtain ⟨S1, HS1⟩ : ∃ S, Hid ((cyc xs (L + 1) S0 v).2 = S) := ⟨_, rfl⟩
      have HS0l : Hid (S0 < 2 ^ L) := by show _ < _; rw [← HS0.out]; exact cycO_lt Hin.out v (by omega)
      have HCl : Hid (C ≤ L) := by show _ ≤ _; rw [← HC.out]; have := (cyc_bound Hin.out (L + 1) S0 v hlt HS0l.out).1; omega
      have HO1 : Hid ((cycO xs L (v + 1)).1 = S1) := by show _ = _; rw [cycO, HS0.out]; exact HS1.out
      have HO2 : Hid (cycS xs L (v + 1) = if C = 0 then cycS xs L v else insD (cycS xs L v) (C : Nat)) := by show _ = _; rw [cycS, HS0.out, HC.out]
      have Hvl := Lib.hid hlt
      have Hout : Hid ((cycS xs L v).length ≤ 20) := by
        show _ ≤ _
        have hp := (cycS_spec (by have := HLb.out; omega) Hin.out v (by omega)).1.length_eq
        simp only [valD, List.length_map] at hp
        have h3 := cycO_len xs L v
        have h4 := HLb.out
        omega
      obtain ⟨out, HO⟩ : ∃ o, Hid (cycS xs L v = o) := ⟨_, rfl⟩
      rw [HO.out] at Hown HO2 Hout
      rw [HS0.out] at HB
      simp only [HO.out]
      clear hlt
      go_wp2_with fail
      go_loopw [8, 9] (fun mm uu wq => ∃ f S u cnt : Nat, mm = .int .i64 (cnt : Int) ∧ uu = .int .i64 (u : Int) ∧ Hid (S < 2 ^ L) ∧ Hid (u < L) ∧ Hid (cnt + (cyc xs f S u).1 = C) ∧ Hid ((cyc xs f S u).2 = S1) ∧ Hid (L < f + shC S L) ∧ Hid (wq.ownsRow (w1.heap.size + 1) 2 1 (.slice (some ⟨g0, 0, none⟩) out.length c1) out.length (cI out)) ∧ Hid (Blk wq w1.heap.size 4 (boolA (fun i => S.testBit i) L)) ∧ Hid (Below w1.heap.size w1 wq)) (fun mm _ _ => C - (intOf mm).toNat)
      case atStart => exact ⟨L + 1, S0, v, 0, rfl, rfl, HS0l, Hvl, by { show _ = _; rw [HC.out]; omega }, HS1, by { show _ < _; omega }, Hown, HB, Hbel⟩
      case round =>
        clear Hown HB Hbel hsz
        obtain ⟨f, S, u, cnt, rfl, rfl, HSl, Hul, Hc, HS, Hf, Hown, HB, Hbel⟩ := hrel
        have hu20 : u < 20 := by have := Hul.out; have := HLb.out; omega
        have hcnt : cnt ≤ 20 := by have := Hc.out; have := HCl.out; have := HLb.out; omega
        have hsz := HB.out.lt
        obtain ⟨eu, eu2, eu3⟩ := idxF u L Hul.out
        cases hbit : S.testBit u
        · obtain ⟨b, off, rfl, hb, hc⟩ := (Hre.out wr (Hb1.out.trans (Hbel.out.mono s1))).pos (by have := HL.out; have := HLb.out; omega)
          have hcu := hc u (by rw [HL.out]; exact Hul.out)
          have hux := Hin.out u Hul.out
          obtain ⟨u2, Hu2⟩ : ∃ u2 : Nat, Hid (xs.getD u 0 = u2) := ⟨(xs.getD u 0).toNat, by show _ = _; omega⟩
          rw [Hu2.out] at hcu hux
          clear hc
          obtain ⟨f, rfl⟩ : ∃ f', f = f' + 1 := ⟨f - 1, by have h1 := Hf.out; have h2 := shC_le S L; omega⟩
          have hgo := cyc_go (xs := xs) (f := f) hbit
          rw [Hu2.out, Int.toNat_natCast] at hgo
          have Hc2 : Hid (cnt + 1 + (cyc xs f (S ||| 2 ^ u) u2).1 = C) := by show _ = _; have h1 := Hc.out; rw [hgo] at h1; dsimp only at h1; omega
          have HS2 : Hid ((cyc xs f (S ||| 2 ^ u) u2).2 = S1) := by show _ = _; have h1 := HS.out; rw [hgo] at h1; exact h1
          have hsh := shC_set hbit Hul.out
          have Hf2 : Hid (L < f + shC (S ||| 2 ^ u) L) := by show _ < _; rw [hsh]; have := Hf.out; omega
          have HSl2 : Hid (S ||| 2 ^ u < 2 ^ L) := set_lt HSl.out Hul.out
          have Hu2l : Hid (u2 < L) := by show _ < _; omega
          have Hset := Lib.hid (boolA_set (p := fun i => S.testBit i) (p' := fun i => (S ||| 2 ^ u).testBit i) Hul.out true fun j _ => by
            rw [bit_set]
            by_cases h : j = u
            · subst h; simp
            · simp [h])
          have hmu : wr.cell? ⟨w1.heap.size, u, none⟩ = some (.bool false) := by rw [← hbit]; exact HB.out.cellAt u _ (boolA_get Hul.out)
          have fu := HB.out.frozen u
          have hbb : b ≠ w1.heap.size := by
            obtain ⟨b9, o9, e9, hb9, _⟩ := (Hre.out w1 Hb1.out).pos (by have := HL.out; have := HLb.out; omega)
            injection e9 with e9
            injection e9 with e9 _ _
            omega
          have hcu2 : (wr.setCell ⟨w1.heap.size, u, none⟩ (.bool true)).cell? ⟨b, off + u, none⟩ = some (.int .i64 (u2 : Int)) := (sc_other (addr_ne (.inl (by omega)))).trans hcu
          have Hc3 := Lib.hid Hc.out
          clear hgo hsh hux
          go_wp2
          refine ⟨⟨f, S ||| 2 ^ u, u2, cnt + 1, by go_num, rfl, HSl2, Hu2l, Hc2, HS2, Hf2, own_set_far Hown.out (by omega), by { show Blk _ _ _ _; rw [← Hset.out]; exact HB.out.set_ u (.bool true) }, Hbel.out.setCell (Nat.le_refl _) _⟩, ?_⟩
          have h9 := Hc2.out
          simp [intOf]; omega
        · have Hc0 : Hid (cnt = C) := by show _ = _; have h1 := Hc.out; rw [cyc_stop hbit] at h1; omega
          have HSs : Hid (S = S1) := by show _ = _; have h1 := HS.out; rw [cyc_stop hbit] at h1; exact h1
          have hmu : wr.cell? ⟨w1.heap.size, u, none⟩ = some (.bool true) := by rw [← hbit]; exact HB.out.cellAt u _ (boolA_get Hul.out)
          have hcc := Hc0.out
          have hss := HSs.out
          clear Hc HS Hf Hc0 HSs hbit Hul
          subst hcc; subst hss
          by_cases hc0 : cnt = 0
          · have HOc : Hid (cycS xs L (v + 1) = out) := by show _ = _; rw [HO2.out, if_pos hc0]
            have g1 : ((cnt : Int) == 0) = true := by rw [hc0]; rfl
            have hv9 : v ≤ 20 := by have := HLb.out; omega
            clear hc0
            go_wp2
            exact ⟨⟨v + 1, by have := Hvl.out; omega, by go_num, by { show World.ownsRow _ _ _ _ _ _ _; rw [HOc.out]; exact Hown.out }, ⟨g0, c1, by rw [HOc.out]⟩, by { show Blk _ _ _ _; rw [HO1.out]; exact HB.out }, Hbel⟩, by have := Hvl.out; simp [intOf]; omega⟩
          · have g1 : ((cnt : Int) == 0) = false := by simp; omega
            have HOc : Hid (cycS xs L (v + 1) = insD out (cnt : Int)) := by show _ = _; rw [HO2.out, if_neg hc0]
            have HOL : Hid ((cycS xs L (v + 1)).length = out.length + 1) := by show _ = _; rw [HOc.out, insD_len]
            obtain ⟨_, _, _, hcap, _⟩ := own_blkI Hown.out
            have hv9 : v ≤ 20 := by have := HLb.out; omega
            obtain ⟨n, Hn⟩ : ∃ n, Hid (out.length = n) := ⟨_, rfl⟩
            rw [Hn.out] at Hown hcap Hout
            have hn20 : n ≤ 20 := Hout.out
            simp only [Hn.out]
            obtain ⟨wo, hwo⟩ : ∃ wo, wo = wr := ⟨_, rfl⟩
            subst hwo
            clear hc0
            go_wp2_with fail
            go_loopw [10] (fun a wq => ∃ k : Nat, a = .int .i64 (k : Int) ∧ k ≤ n ∧ Hid (atD out (cnt : Int) k = atD out (cnt : Int) n) ∧ wq = wo) (fun a _ => (intOf a).toNat)
            case atStart => exact ⟨n, rfl, Nat.le_refl _, rfl, rfl⟩
            case round =>
              obtain ⟨k, rfl, hk, Hat, hwq⟩ := hrel
              subst hwq
              have hrd := own_rdI Hown.out
              by_cases hk0 : k = 0
              · have Hatk : Hid (atD out (cnt : Int) n = k) := by show _ = _; rw [← Hat.out]; exact atD_stop (.inl hk0)
                have g2 : decide ((k : Int) > 0) = false := by rw [hk0]; rfl
                have g3 : ¬ 0 < k := by omega
                clear hk0
                by_cases hck : k < c1
                · have hck2 : ¬ c1 - k = 0 := by omega
                  have Hins : Hid (cycS xs L (v + 1) = out.take k ++ ((cnt : Int) :: out.drop k)) := by show _ = _; rw [HOc.out, insD, Hn.out, Hatk.out]
                  have hlt9 : (out.take k).length = k := by have := Hn.out; rw [List.length_take]; omega
                  have hld9 : (out.drop k).length = n - k := by have := Hn.out; rw [List.length_drop]; omega
                  have hownR : (wr.alloc (.cells #[.int .i64 (cnt : Int)] 2)).ownsRow wr.heap.size 2 1 (.slice (some ⟨wr.heap.size, 0, none⟩) 1 1) 1 (cI [(cnt : Int)]) := own_blk (xs := cI [(cnt : Int)]) (Blk.new' (n := wr.heap.size) _ rfl) rfl (by decide)
                  have hrd2 : RdI (wr.alloc (.cells #[.int .i64 (cnt : Int)] 2)) (some ⟨g0, k, none⟩) (out.drop k) := by
                    have h := rdI_drop (hrd.below (Below.alloc (Below.refl wr.heap.size wr) (Nat.le_refl _) (.cells #[.int .i64 (cnt : Int)] 2))) k
                    rwa [Nat.zero_add] at h
                  go_wp2_with (first
                    | (at_builtin; refine wpList_appendI rfl rfl wr.heap.size _ 1 [(cnt : Int)] rfl hownR g0 k (n - k) _ (out.drop k) rfl hld9 hrd2 (by omega) (by omega) (by simp) ?_))
                  intro v3 w3 hown3 hfr3
                  obtain ⟨g3, c3, rfl, _, _⟩ := own_someI hown3 (by omega)
                  have hb3 : Below wr.heap.size wr w3 := hfr3 wr.heap.size wr (Nat.le_refl _) (Below.alloc (Below.refl _ _) (Nat.le_refl _) _)
                  have s3 := hb3.size
                  have HR3 : Hid (RdI w3 (some ⟨g3, 0, none⟩) ([(cnt : Int)] ++ out.drop k)) := own_rdI hown3
                  have cl := l01Own2_b g0 0 c1 (out.take k) w3 (by omega) (rdI_take (own_rdI (own_below Hown.out hb3)) k)
                  rw [hlt9] at cl
                  have Cl := Lib.hid cl
                  have Hb3 := Lib.hid hb3
                  clear hown3 hfr3 cl hb3 hownR hrd2
                  go_wp2_with fail
                  refine Cl.out.mono ?_
                  rintro e w4 ⟨A4, c4, rfl, hown4, hb4⟩
                  have s4 := hb4.size
                  have hR4 := HR3.out.below hb4
                  go_wp2_with (first
                    | (at_builtin; refine wpList_appendI rfl rfl w3.heap.size _ k (out.take k) rfl hown4 g3 0 (1 + (n - k)) c3 ([(cnt : Int)] ++ out.drop k) rfl (by rw [List.length_append, hld9]; rfl) hR4 (by omega) (by omega) (by omega) ?_))
                  intro v5 w5 hown5 hfr5
                  have e5 : k + (1 + (n - k)) = (cycS xs L (v + 1)).length := by rw [HOL.out, Hn.out]; omega
                  rw [e5, ← Hins.out] at hown5
                  obtain ⟨g5, c5, rfl, _, _⟩ := own_someI hown5 (by rw [HOL.out]; omega)
                  have hb5 : Below w3.heap.size w3 w5 := hfr5 w3.heap.size w3 (Nat.le_refl _) hb4
                  have hb59 : Below wr.heap.size wr w5 := Hb3.out.trans (hb5.mono s3)
                  have Hown5 : Hid (w5.ownsRow (w1.heap.size + 1) 2 1 (.slice (some ⟨g5, 0, none⟩) (cycS xs L (v + 1)).length c5) (cycS xs L (v + 1)).length (cI (cycS xs L (v + 1)))) := own_mono hown5 (by omega)
                  have HB5 : Hid (Blk w5 w1.heap.size 4 (boolA (fun i => S.testBit i) L)) := HB.out.below hb59 hsz
                  have Hb5 : Hid (Below w1.heap.size w1 w5) := Hbel.out.trans (hb59.mono (by omega))
                  clear hown5 hfr5 hb5 hb59 hown4 hb4 hR4 Hown HB Hbel hrd hmu e5
                  go_wp2
                  exact ⟨⟨v + 1, by have := Hvl.out; omega, by go_num, Hown5, ⟨g5, c5, rfl⟩, by { show Blk _ _ _ _; rw [HO1.out]; exact HB5.out }, Hb5⟩, by have := Hvl.out; simp [intOf]; omega⟩
                · obtain rfl : k = c1 := by omega
                  have hck2 : k - k = 0 := by omega
                  have hlt9 : (out.take k).length = k := by have := Hn.out; rw [List.length_take]; omega
                  have Hins : Hid (cycS xs L (v + 1) = out.take k ++ [(cnt : Int)]) := by
                    show _ = _
                    rw [HOc.out, insD, Hn.out, Hatk.out, show out.drop k = [] by rw [List.drop_eq_nil_iff]; have := Hn.out; omega]
                  have hownR : (wr.alloc (.cells #[.int .i64 (cnt : Int)] 2)).ownsRow wr.heap.size 2 1 (.slice (some ⟨wr.heap.size, 0, none⟩) 1 1) 1 (cI [(cnt : Int)]) := own_blk (xs := cI [(cnt : Int)]) (Blk.new' (n := wr.heap.size) _ rfl) rfl (by decide)
                  have hb3 : Below wr.heap.size wr (wr.alloc (.cells #[.int .i64 (cnt : Int)] 2)) := Below.alloc (Below.refl _ _) (Nat.le_refl _) _
                  have HR3 : Hid (RdI (wr.alloc (.cells #[.int .i64 (cnt : Int)] 2)) (some ⟨wr.heap.size, 0, none⟩) [(cnt : Int)]) := own_rdI hownR
                  have cl := l01Own2_b g0 0 k (out.take k) (wr.alloc (.cells #[.int .i64 (cnt : Int)] 2)) (by omega) (rdI_take (own_rdI (own_below Hown.out hb3)) k)
                  rw [hlt9] at cl
                  have Cl := Lib.hid cl
                  have Hb3 := Lib.hid hb3
                  clear cl hb3 hownR
                  go_wp2_with fail
                  refine Cl.out.mono ?_
                  rintro e w4 ⟨A4, c4, rfl, hown4, hb4⟩
                  have s4 := hb4.size
                  simp only [World.size_alloc, World.size_setCell, World.size_drew] at s4
                  have hR4 := HR3.out.below hb4
                  have hown4' := own_mono hown4 (base' := wr.heap.size) (by simp)
                  go_wp2_with (first
                    | (at_builtin; refine wpList_appendI rfl rfl wr.heap.size _ k (out.take k) rfl hown4' wr.heap.size 0 1 1 [(cnt : Int)] rfl rfl hR4 (by omega) (by omega) (by omega) ?_))
                  intro v5 w5 hown5 hfr5
                  have e5 : k + 1 = (cycS xs L (v + 1)).length := by rw [HOL.out, Hn.out]; omega
                  rw [e5, ← Hins.out] at hown5
                  obtain ⟨g5, c5, rfl, _, _⟩ := own_someI hown5 (by rw [HOL.out]; omega)
                  have hb59 : Below wr.heap.size wr w5 := hfr5 wr.heap.size wr (Nat.le_refl _) (Hb3.out.trans (hb4.mono (by simp)))
                  have Hown5 : Hid (w5.ownsRow (w1.heap.size + 1) 2 1 (.slice (some ⟨g5, 0, none⟩) (cycS xs L (v + 1)).length c5) (cycS xs L (v + 1)).length (cI (cycS xs L (v + 1)))) := own_mono hown5 (by omega)
                  have HB5 : Hid (Blk w5 w1.heap.size 4 (boolA (fun i => S.testBit i) L)) := HB.out.below hb59 hsz
                  have Hb5 : Hid (Below w1.heap.size w1 w5) := Hbel.out.trans (hb59.mono (by omega))
                  clear hown5 hfr5 hb59 hown4 hown4' hb4 hR4 Hown HB Hbel hrd hmu e5
                  go_wp2
                  exact ⟨⟨v + 1, by have := Hvl.out; omega, by go_num, Hown5, ⟨g5, c5, rfl⟩, by { show Blk _ _ _ _; rw [HO1.out]; exact HB5.out }, Hb5⟩, by have := Hvl.out; simp [intOf]; omega⟩
              · obtain ⟨b8, o8, e8, _, hc8⟩ := hrd.pos (by have := Hn.out; omega)
                injection e8 with e8
                injection e8 with e8 e9 _
                subst e8; subst e9
                have hp8 := hc8 (k - 1) (by have := Hn.out; omega)
                rw [Nat.zero_add] at hp8
                obtain ⟨x, Hx⟩ : ∃ x, Hid (out.getD (k - 1) 0 = x) := ⟨_, rfl⟩
                rw [Hx.out] at hp8
                clear hc8
                have hkpos : 0 < k := by omega
                have g2 : decide ((k : Int) > 0) = true := by simp; omega
                clear hk0
                by_cases hx : x < (cnt : Int)
                · have g4 : decide (x < (cnt : Int)) = true := by simpa using hx
                  have Hat2 : Hid (atD out (cnt : Int) (k - 1) = atD out (cnt : Int) n) := by
                    show _ = _
                    rw [← Hat.out]
                    obtain ⟨p, rfl⟩ : ∃ p, k = p + 1 := ⟨k - 1, by omega⟩
                    have h9 := Hx.out
                    rw [Nat.add_sub_cancel] at h9 ⊢
                    rw [atD, if_pos (by rw [h9]; exact hx)]
                  clear hx
                  go_wp2
                  exact ⟨⟨k - 1, by congr 1; omega, by omega, Hat2, trivial⟩, by simp [intOf]; omega⟩
                · have g4 : decide (x < (cnt : Int)) = false := by simpa using hx
                  have Hatk : Hid (atD out (cnt : Int) n = k) := by
                    show _ = _
                    rw [← Hat.out]
                    refine atD_stop (.inr ?_)
                    rw [Hx.out]; omega
                  clear hx
                  by_cases hck : k < c1
                  · have hck2 : ¬ c1 - k = 0 := by omega
                    have Hins : Hid (cycS xs L (v + 1) = out.take k ++ ((cnt : Int) :: out.drop k)) := by show _ = _; rw [HOc.out, insD, Hn.out, Hatk.out]
                    have hlt9 : (out.take k).length = k := by have := Hn.out; rw [List.length_take]; omega
                    have hld9 : (out.drop k).length = n - k := by have := Hn.out; rw [List.length_drop]; omega
                    have hownR : (wr.alloc (.cells #[.int .i64 (cnt : Int)] 2)).ownsRow wr.heap.size 2 1 (.slice (some ⟨wr.heap.size, 0, none⟩) 1 1) 1 (cI [(cnt : Int)]) := own_blk (xs := cI [(cnt : Int)]) (Blk.new' (n := wr.heap.size) _ rfl) rfl (by decide)
                    have hrd2 : RdI (wr.alloc (.cells #[.int .i64 (cnt : Int)] 2)) (some ⟨g0, k, none⟩) (out.drop k) := by
                      have h := rdI_drop (hrd.below (Below.alloc (Below.refl wr.heap.size wr) (Nat.le_refl _) (.cells #[.int .i64 (cnt : Int)] 2))) k
                      rwa [Nat.zero_add] at h
                    go_wp2_with (first
                      | (at_builtin; refine wpList_appendI rfl rfl wr.heap.size _ 1 [(cnt : Int)] rfl hownR g0 k (n - k) _ (out.drop k) rfl hld9 hrd2 (by omega) (by omega) (by simp) ?_))
                    intro v3 w3 hown3 hfr3
                    obtain ⟨g3, c3, rfl, _, _⟩ := own_someI hown3 (by omega)
                    have hb3 : Below wr.heap.size wr w3 := hfr3 wr.heap.size wr (Nat.le_refl _) (Below.alloc (Below.refl _ _) (Nat.le_refl _) _)
                    have s3 := hb3.size
                    have HR3 : Hid (RdI w3 (some ⟨g3, 0, none⟩) ([(cnt : Int)] ++ out.drop k)) := own_rdI hown3
                    have cl := l01Own2_b g0 0 c1 (out.take k) w3 (by omega) (rdI_take (own_rdI (own_below Hown.out hb3)) k)
                    rw [hlt9] at cl
                    have Cl := Lib.hid cl
                    have Hb3 := Lib.hid hb3
                    clear hown3 hfr3 cl hb3 hownR hrd2
                    go_wp2_with fail
                    refine Cl.out.mono ?_
                    rintro e w4 ⟨A4, c4, rfl, hown4, hb4⟩
                    have s4 := hb4.size
                    have hR4 := HR3.out.below hb4
                    go_wp2_with (first
                      | (at_builtin; refine wpList_appendI rfl rfl w3.heap.size _ k (out.take k) rfl hown4 g3 0 (1 + (n - k)) c3 ([(cnt : Int)] ++ out.drop k) rfl (by rw [List.length_append, hld9]; rfl) hR4 (by omega) (by omega) (by omega) ?_))
                    intro v5 w5 hown5 hfr5
                    have e5 : k + (1 + (n - k)) = (cycS xs L (v + 1)).length := by rw [HOL.out, Hn.out]; omega
                    rw [e5, ← Hins.out] at hown5
                    obtain ⟨g5, c5, rfl, _, _⟩ := own_someI hown5 (by rw [HOL.out]; omega)
                    have hb5 : Below w3.heap.size w3 w5 := hfr5 w3.heap.size w3 (Nat.le_refl _) hb4
                    have hb59 : Below wr.heap.size wr w5 := Hb3.out.trans (hb5.mono s3)
                    have Hown5 : Hid (w5.ownsRow (w1.heap.size + 1) 2 1 (.slice (some ⟨g5, 0, none⟩) (cycS xs L (v + 1)).length c5) (cycS xs L (v + 1)).length (cI (cycS xs L (v + 1)))) := own_mono hown5 (by omega)
                    have HB5 : Hid (Blk w5 w1.heap.size 4 (boolA (fun i => S.testBit i) L)) := HB.out.below hb59 hsz
                    have Hb5 : Hid (Below w1.heap.size w1 w5) := Hbel.out.trans (hb59.mono (by omega))
                    clear hown5 hfr5 hb5 hb59 hown4 hb4 hR4 Hown HB Hbel hrd hmu e5
                    go_wp2
                    exact ⟨⟨v + 1, by have := Hvl.out; omega, by go_num, Hown5, ⟨g5, c5, rfl⟩, by { show Blk _ _ _ _; rw [HO1.out]; exact HB5.out }, Hb5⟩, by have := Hvl.out; simp [intOf]; omega⟩
                  · obtain rfl : k = c1 := by omega
                    have hck2 : k - k = 0 := by omega
                    have hlt9 : (out.take k).length = k := by have := Hn.out; rw [List.length_take]; omega
                    have Hins : Hid (cycS xs L (v + 1) = out.take k ++ [(cnt : Int)]) := by
                      show _ = _
                      rw [HOc.out, insD, Hn.out, Hatk.out, show out.drop k = [] by rw [List.drop_eq_nil_iff]; have := Hn.out; omega]
                    have hownR : (wr.alloc (.cells #[.int .i64 (cnt : Int)] 2)).ownsRow wr.heap.size 2 1 (.slice (some ⟨wr.heap.size, 0, none⟩) 1 1) 1 (cI [(cnt : Int)]) := own_blk (xs := cI [(cnt : Int)]) (Blk.new' (n := wr.heap.size) _ rfl) rfl (by decide)
                    have hb3 : Below wr.heap.size wr (wr.alloc (.cells #[.int .i64 (cnt : Int)] 2)) := Below.alloc (Below.refl _ _) (Nat.le_refl _) _
                    have HR3 : Hid (RdI (wr.alloc (.cells #[.int .i64 (cnt : Int)] 2)) (some ⟨wr.heap.size, 0, none⟩) [(cnt : Int)]) := own_rdI hownR
                    have cl := l01Own2_b g0 0 k (out.take k) (wr.alloc (.cells #[.int .i64 (cnt : Int)] 2)) (by omega) (rdI_take (own_rdI (own_below Hown.out hb3)) k)
                    rw [hlt9] at cl
                    have Cl := Lib.hid cl
                    have Hb3 := Lib.hid hb3
                    clear cl hb3 hownR
                    go_wp2_with fail
                    refine Cl.out.mono ?_
                    rintro e w4 ⟨A4, c4, rfl, hown4, hb4⟩
                    have s4 := hb4.size
                    simp only [World.size_alloc, World.size_setCell, World.size_drew] at s4
                    have hR4 := HR3.out.below hb4
                    have hown4' := own_mono hown4 (base' := wr.heap.size) (by simp)
                    go_wp2_with (first
                      | (at_builtin; refine wpList_appendI rfl rfl wr.heap.size _ k (out.take k) rfl hown4' wr.heap.size 0 1 1 [(cnt : Int)] rfl rfl hR4 (by omega) (by omega) (by omega) ?_))
                    intro v5 w5 hown5 hfr5
                    have e5 : k + 1 = (cycS xs L (v + 1)).length := by rw [HOL.out, Hn.out]; omega
                    rw [e5, ← Hins.out] at hown5
                    obtain ⟨g5, c5, rfl, _, _⟩ := own_someI hown5 (by rw [HOL.out]; omega)
                    have hb59 : Below wr.heap.size wr w5 := hfr5 wr.heap.size wr (Nat.le_refl _) (Hb3.out.trans (hb4.mono (by simp)))
                    have Hown5 : Hid (w5.ownsRow (w1.heap.size + 1) 2 1 (.slice (some ⟨g5, 0, none⟩) (cycS xs L (v + 1)).length c5) (cycS xs L (v + 1)).length (cI (cycS xs L (v + 1)))) := own_mono hown5 (by omega)
                    have HB5 : Hid (Blk w5 w1.heap.size 4 (boolA (fun i => S.testBit i) L)) := HB.out.below hb59 hsz
                    have Hb5 : Hid (Below w1.heap.size w1 w5) := Hbel.out.trans (hb59.mono (by omega))
                    clear hown5 hfr5 hb59 hown4 hown4' hb4 hR4 Hown HB Hbel hrd hmu e5
                    go_wp2
                    exact ⟨⟨v + 1, by have := Hvl.out; omega, by go_num, Hown5, ⟨g5, c5, rfl⟩, by { show Blk _ _ _ _; rw [HO1.out]; exact HB5.out }, Hb5⟩, by have := Hvl.out; simp [intOf]; omega⟩
    · obtain rfl : v = L := by omega
      have HF := Lib.hid (own_frI Hown.out)
      have Hbw : Hid (Below w.heap.size w wr) := Hb1.out.trans (Hbel.out.mono s1)
      go_wp2
      go_ret2
      exact ⟨RetI.mk (HF.out.mono (by omega)) rfl rfl, Hbw.out⟩
end Go.Proofs.Ytblidpodbpoaeaa
