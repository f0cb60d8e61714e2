/- impl.CycleTypeOf. No statement of the program is proved here. -/
import Derived.Test.YtblidpodbpoaeaaCy1
import Derived.Test.YtblidpodbpoaeaaOr2
import Derived.Test.YtblidpodbpoaeaaMk1
namespace Go.Proofs.Ytblidpodbpoaeaa
open Go.RowKit
set_option linter.unusedSimpArgs false
set_option linter.unusedVariables false
set_option maxRecDepth 20000

set_option maxHeartbeats 4000000 in
/-- The errors. -/
theorem implCycle_err (A : Option Addr) (c : Nat) (xs : List Int) (w : World) (q1 q2 : Bool) (h1 : Hid (inB (xs.length : Int) 1 20 = q1)) (h2 : Hid (permB xs xs.length = q2)) (h : ¬ (q1 = true ∧ q2 = true)) (hl : xs.length ≤ 1048576) (hr : RdI w A xs) :
    Calls Try.prog 30 #[.slice A xs.length c] w fun e w' => RetI w' w.heap.size e [] (.int .i64 2) ∧ Below w.heap.size w w' := by
  have cw := Lib.hid fun W => within_b (xs.length : Int) 1 20 W q1 h1
  cases q1
  · clear hr h1 h2 h
    generalize xs.length = L at *
    go_enter Try.func30, Try.ntmps30
    go_wp2_with fail
    refine (lengthI_any _ _ _ _).mono ?_
    rintro e w1 ⟨rfl, rfl⟩
    go_wp2_with fail
    refine (cw.out _).mono ?_
    rintro e w1 ⟨rfl, rfl⟩
    go_wp2
    go_ret2
    exact ⟨⟨none, 0, rfl, .inl rfl⟩, Below.refl _ _⟩
  · obtain rfl : q2 = false := by cases q2 <;> simp_all
    have hb := inB_true.1 h1.out
    have co := Lib.hid (isOrder_b A c xs xs.length w false h2 (by omega) hl hr)
    clear hr h1 h2 h hb
    generalize xs.length = L at *
    go_enter Try.func30, Try.ntmps30
    go_wp2_with fail
    refine (lengthI_any _ _ _ _).mono ?_
    rintro e w1 ⟨rfl, rfl⟩
    go_wp2_with fail
    refine (cw.out _).mono ?_
    rintro e w1 ⟨rfl, rfl⟩
    go_wp2_with fail
    refine (lengthI_any _ _ _ _).mono ?_
    rintro e w1 ⟨rfl, rfl⟩
    go_wp2_with fail
    refine co.out.mono ?_
    rintro e w1 ⟨rfl, hb1⟩
    go_wp2
    go_ret2
    exact ⟨⟨none, 0, rfl, .inl rfl⟩, hb1⟩

set_option maxHeartbeats 8000000 in
/-- The cycle type. -/
theorem implCycle_yes (A : Option Addr) (c : Nat) (xs : List Int) (w : World) (h1 : Hid (inB (xs.length : Int) 1 20 = true)) (h2 : Hid (permB xs xs.length = true)) (hl : xs.length ≤ 1048576) (hr : RdI w A xs) :
    Calls Try.prog 30 #[.slice A xs.length c] w fun e w' => RetI w' w.heap.size e (valD (sortD (cycO xs xs.length xs.length).2)) (.int .i64 0) ∧ Below w.heap.size w w' := by
  have cw := Lib.hid fun W => within_b (xs.length : Int) 1 20 W true h1
  have hb := inB_true.1 h1.out
  have co := Lib.hid (isOrder_b A c xs xs.length w true h2 (by omega) hl hr)
  have Hre : Hid (∀ W, Below w.heap.size w W → RdI W A xs) := fun W hW => hr.below hW
  have hin0 := permB_in h2.out
  obtain ⟨L, HL⟩ : ∃ L, Hid (xs.length = L) := ⟨_, rfl⟩
  rw [HL.out] at cw co hin0 hb ⊢
  have Hin : Hid (Inx xs L) := hin0
  have HLb : Hid (1 ≤ L ∧ L ≤ 20) := by show _ ∧ _; omega
  clear hr h1 h2 hb hl hin0
  go_enter Try.func30, Try.ntmps30
  go_wp2_with fail
  refine (lengthI_any _ _ _ _).mono ?_
  rintro e w1 ⟨rfl, rfl⟩
  go_wp2_with fail
  refine (cw.out _).mono ?_
  rintro e w1 ⟨rfl, rfl⟩
  go_wp2_with fail
  refine (lengthI_any _ _ _ _).mono ?_
  rintro e w1 ⟨rfl, rfl⟩
  go_wp2_with fail
  refine co.out.mono ?_
  rintro e w1 ⟨rfl, hb1⟩
  have Hb1 := Lib.hid hb1
  have s1 := hb1.size
  clear co cw hb1
  go_wp2_with fail
  refine (lengthI_any _ _ _ _).mono ?_
  rintro e w1' ⟨rfl, rfl⟩
  go_wp2_with fail
  go_loopw [4, 5, 22] (fun s o i wr => ∃ v : Nat, v ≤ L ∧ i = .int .i64 v ∧ s = .int .u64 ((cycO xs L v).1 : Nat) ∧ Hid (wr.ownsRow w1.heap.size 2 1 o (cycO xs L v).2.length (cI (valD (cycO xs L v).2))) ∧ Hid (Below w1.heap.size w1 wr)) (fun _ _ i _ => L - (intOf i).toNat)
  case atStart => exact ⟨0, Nat.zero_le _, rfl, rfl, World.ownsRow_nil _ _ _ _, Below.refl _ _⟩
  case round =>
    obtain ⟨v, hv, rfl, rfl, Hown, Hbel⟩ := hrel
    obtain ⟨A1, c1, rfl⟩ := own_form Hown.out
    have hsz := Hbel.out.size
    by_cases hlt : v < L
    · obtain ⟨ev, ev2, ev3⟩ := idxF v L hlt
      obtain ⟨S0, HS0⟩ : ∃ S, Hid ((cycO xs L v).1 = S) := ⟨_, rfl⟩
      obtain ⟨C, HC⟩ : ∃ S, Hid ((cyc xs (L + 1) S0 v).1 = S) := ⟨_, rfl⟩
      obtain ⟨S1, HS1⟩ : ∃ S, Hid ((cyc xs (L + 1) S0 v).2 = S) := ⟨_, rfl⟩
      have HS0l : Hid (S0 < 2 ^ L) := by show _ < _; rw [← HS0.out]; exact cycO_lt Hin.out v (by omega)
      have HCl : Hid (C ≤ L) := by show _ ≤ _; rw [← HC.out]; have := (cyc_bound Hin.out (L + 1) S0 v hlt HS0l.out).1; omega
      have HO1 : Hid ((cycO xs L (v + 1)).1 = S1) := by show _ = _; rw [cycO, HS0.out]; exact HS1.out
      have HO2 : Hid ((cycO xs L (v + 1)).2 = if C = 0 then (cycO xs L v).2 else (cycO xs L v).2 ++ [toF C]) := by show _ = _; rw [cycO, HS0.out, HC.out]
      have Hvl := Lib.hid hlt
      rw [HS0.out]
      clear hlt
      obtain ⟨wo, hwo⟩ : ∃ wo, wo = wr := ⟨_, rfl⟩
      subst hwo
      go_wp2_with fail
      go_loopw [4, 7, 8] (fun s mm uu wq => ∃ f S u cnt : Nat, s = .int .u64 (S : Int) ∧ mm = .int .i64 (cnt : Int) ∧ uu = .int .i64 (u : Int) ∧ Hid (S < 2 ^ L) ∧ Hid (u < L) ∧ Hid (cnt + (cyc xs f S u).1 = C) ∧ Hid ((cyc xs f S u).2 = S1) ∧ Hid (L < f + shC S L) ∧ wq = wo) (fun s _ _ _ => L - shC (intOf s).toNat L)
      case atStart => exact ⟨L + 1, S0, v, 0, rfl, rfl, rfl, HS0l, Hvl, by { show _ = _; rw [HC.out]; omega }, HS1, by { show _ < _; omega }, rfl⟩
      case round =>
        obtain ⟨f, S, u, cnt, rfl, rfl, rfl, HSl, Hul, Hc, HS, Hf, hwq⟩ := hrel
        subst hwq
        have hu20 : u < 20 := by have := Hul.out; have := HLb.out; omega
        have hS63 : S < 2 ^ 63 := Nat.lt_of_lt_of_le HSl.out (Nat.pow_le_pow_right (by decide) (by have := HLb.out; omega))
        have hcnt : cnt ≤ 20 := by have := Hc.out; have := HCl.out; have := HLb.out; omega
        cases hbit : S.testBit u
        · obtain ⟨b, off, rfl, hb, hc⟩ := (Hre.out wr (Hb1.out.trans (Hbel.out.mono s1))).pos (by have := HL.out; have := HLb.out; omega)
          have hcu := hc u (by rw [HL.out]; exact Hul.out)
          have hux := Hin.out u Hul.out
          obtain ⟨u2, Hu2⟩ : ∃ u2 : Nat, Hid (xs.getD u 0 = u2) := ⟨(xs.getD u 0).toNat, by show _ = _; omega⟩
          rw [Hu2.out] at hcu hux
          clear hc
          obtain ⟨f, rfl⟩ : ∃ f', f = f' + 1 := ⟨f - 1, by have h1 := Hf.out; have h2 := shC_le S L; omega⟩
          have hgo := cyc_go (xs := xs) (f := f) hbit
          rw [Hu2.out, Int.toNat_natCast] at hgo
          have Hc2 : Hid (cnt + 1 + (cyc xs f (S ||| 2 ^ u) u2).1 = C) := by show _ = _; have h1 := Hc.out; rw [hgo] at h1; dsimp only at h1; omega
          have HS2 : Hid ((cyc xs f (S ||| 2 ^ u) u2).2 = S1) := by show _ = _; have h1 := HS.out; rw [hgo] at h1; exact h1
          have hsh := shC_set hbit Hul.out
          have Hf2 : Hid (L < f + shC (S ||| 2 ^ u) L) := by show _ < _; rw [hsh]; have := Hf.out; omega
          have HSl2 : Hid (S ||| 2 ^ u < 2 ^ L) := set_lt HSl.out Hul.out
          have Hu2l : Hid (u2 < L) := by show _ < _; omega
          have Hms : Hid (L - shC (S ||| 2 ^ u) L < L - shC S L) := by show _ < _; have := shC_le (S ||| 2 ^ u) L; rw [hsh] at this ⊢; omega
          have e1 := wrapU_pow (show u < 64 by omega)
          have e2 := orU (Nat.lt_trans hS63 (by decide)) (Nat.pow_lt_pow_right (by decide) (show u < 64 by omega) : 2 ^ u < 2 ^ 64)
          obtain ⟨eu, eu2, eu3⟩ := idxF u L Hul.out
          have Ch := Lib.hid fun W => has_b u S W false hbit (by omega) hS63
          clear hgo hsh hux
          go_wp2_with fail
          refine (Ch.out _).mono ?_
          rintro e w9 ⟨rfl, rfl⟩
          go_wp2
          have e4 : bits .or .u64 (S : Int) ((2 : Int) ^ u) = ((S ||| 2 ^ u : Nat) : Int) := by rw [show (2 : Int) ^ u = ((2 ^ u : Nat) : Int) by rw [Int.natCast_pow]; rfl]; exact e2
          refine ⟨⟨f, S ||| 2 ^ u, u2, cnt + 1, by first | rfl | rw [e4], by go_num, rfl, HSl2, Hu2l, Hc2, HS2, Hf2, trivial⟩, ?_⟩
          have h9 := Hms.out
          try rw [e4]
          simpa [intOf] using h9
        · have Hc0 : Hid (cnt = C) := by show _ = _; have h1 := Hc.out; rw [cyc_stop hbit] at h1; omega
          have HSs : Hid (S = S1) := by show _ = _; have h1 := HS.out; rw [cyc_stop hbit] at h1; exact h1
          have Ch := Lib.hid fun W => has_b u S W true hbit (by omega) hS63
          go_wp2_with fail
          refine (Ch.out _).mono ?_
          rintro e w9 ⟨rfl, rfl⟩
          have hcc := Hc0.out
          have hss := HSs.out
          clear Hc HS Hf Hc0 HSs hbit Hul
          subst hcc; subst hss
          by_cases hc0 : 0 < cnt
          · have g1 : decide ((cnt : Int) > 0) = true := by simp; omega
            have HOc : Hid (valD (cycO xs L (v + 1)).2 = valD (cycO xs L v).2 ++ [(cnt : Int)]) := by
              show _ = _
              rw [HO2.out, if_neg (by omega), valD_snoc _ (by omega)]
            have HOl : Hid ((cycO xs L (v + 1)).2.length = (cycO xs L v).2.length + 1) := by show _ = _; rw [HO2.out, if_neg (by omega)]; simp
            have hnl : Hid ((cycO xs L v).2.length ≤ 20) := by show _ ≤ _; have := cycO_len xs L v; have := HLb.out; omega
            have hown2 := own_below Hown.out (show Below wr.heap.size wr (wr.alloc (.cells #[.int .i64 (cnt : Int)] 2)) by (repeat' (first | (with_reducible exact Below.refl _ _) | (with_reducible assumption) | (with_reducible refine Below.alloc ?_ ?_ _) | (with_reducible refine Below.drew ?_) | (with_reducible refine below_drewN ?_ _) | (with_reducible refine Below.setCell ?_ ?_ _) | (with_reducible refine Below.trans ?_ (Below.mono (by assumption) ?_)) | (first | omega | (simp only [World.size_alloc, World.size_setCell, World.size_drew]; omega) | (simp; omega) | (simp; done)))))
            go_wp2_with (first
              | (at_builtin; refine wpList_append1 rfl rfl w1.heap.size _ (cycO xs L v).2.length (valD (cycO xs L v).2) rfl hown2 ⟨wr.heap.size, 0, none⟩ 1 (cnt : Int) rfl (by simp) (by have := hnl.out; omega) (by simp; omega) ?_))
            intro g c9 w3 hown3 hfr
            have Hb3 : Hid (Below w1.heap.size w1 w3) := hfr w1.heap.size w1 (Nat.le_refl _) (by have := Hbel.out; (repeat' (first | (with_reducible exact Below.refl _ _) | (with_reducible assumption) | (with_reducible refine Below.alloc ?_ ?_ _) | (with_reducible refine Below.drew ?_) | (with_reducible refine below_drewN ?_ _) | (with_reducible refine Below.setCell ?_ ?_ _) | (with_reducible refine Below.trans ?_ (Below.mono (by assumption) ?_)) | (first | omega | (simp only [World.size_alloc, World.size_setCell, World.size_drew]; omega) | (simp; omega) | (simp; done)))))
            have Hown3 : Hid (w3.ownsRow w1.heap.size 2 1 (.slice (some ⟨g, 0, none⟩) ((cycO xs L v).2.length + 1) c9) (cycO xs L (v + 1)).2.length (cI (valD (cycO xs L (v + 1)).2))) := by
              show World.ownsRow _ _ _ _ _ _ _
              rw [HOl.out, HOc.out]
              exact hown3
            have hv9 : v ≤ 20 := by have := HLb.out; omega
            clear hown3 hfr hown2 Hown Hbel g1 hc0
            go_wp2
            exact ⟨⟨v + 1, by have := Hvl.out; omega, by go_num, by rw [HO1.out], Hown3, Hb3⟩, by have := Hvl.out; simp [intOf]; omega⟩
          · have g1 : decide ((cnt : Int) > 0) = false := by simp; omega
            have HOc : Hid ((cycO xs L (v + 1)).2 = (cycO xs L v).2) := by
              show _ = _
              rw [HO2.out, if_pos (by omega)]
            have hv9 : v ≤ 20 := by have := HLb.out; omega
            go_wp2
            exact ⟨⟨v + 1, by have := Hvl.out; omega, by go_num, by rw [HO1.out], by { show World.ownsRow _ _ _ _ _ _ _; rw [HOc.out]; exact Hown.out }, Hbel⟩, by have := Hvl.out; simp [intOf]; omega⟩
    · obtain rfl : v = L := by omega
      have hpos := cycO_pos xs v v HLb.out.1
      have hlen := cycO_len xs v v
      obtain ⟨g, c2, hv2, hg1, hg2⟩ := own_someI Hown.out hpos
      injection hv2 with hv2 _ hv3
      subst hv2; subst hv3
      have Cs := Lib.hid (sortFuncI_b Hown.out rfl (by have := HLb.out; omega))
      clear hpos hlen
      generalize hO : cycO xs v v = O at *
      have HO := Lib.hid hO
      clear hO
      go_wp2_with fail
      refine Cs.out.mono ?_
      rintro e w3 ⟨rfl, hown3, hb3⟩
      have HF := Lib.hid (own_frI hown3)
      have Hb3 : Hid (Below w.heap.size w w3) := Hb1.out.trans ((Hbel.out.trans hb3).mono s1)
      clear hown3 hb3 Cs Hown Hbel
      go_wp2
      go_ret2
      refine ⟨?_, Hb3.out⟩
      rw [HO.out]
      exact RetI.mk (HF.out.mono s1) (by simp [valD, sortD_len]) rfl
end Go.Proofs.Ytblidpodbpoaeaa
