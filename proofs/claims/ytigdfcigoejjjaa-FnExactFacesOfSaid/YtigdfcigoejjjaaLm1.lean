/- The laws' functions on lists of lists: marks, what is held, equality. No statement of the program is proved here. -/
import Derived.Test.YtigdfcigoejjjaaLl1
import Derived.Test.YtigdfcigoejjjaaGr
namespace Go.Proofs.Ytigdfcigoejjjaa
open Go.RowKit
set_option linter.unusedSimpArgs false
set_option linter.unusedVariables false
set_option maxRecDepth 20000

/-- The slices of a list of lists: where each begins. -/
structure Parts (w : World) (n0 b off : Nat) (As : Nat → Option Addr) (cur : Nat → List Int) (m : Nat) : Prop where
  cell : ∀ j, j < m → ∃ c, w.cell? ⟨b, off + j, none⟩ = some (.slice (As j) (cur j).length c)
  fr : ∀ j, j < m → FrI w n0 (As j) (cur j)
  far : ∀ j, j < m → ∀ g o, As j = some ⟨g, o, none⟩ → g ≠ b
  apart : ∀ i j, i < m → j < m → i ≠ j → ∀ g o o', As i = some ⟨g, o, none⟩ → As j ≠ some ⟨g, o', none⟩
/-- A slice of slices reads as these lists; all its blocks are none below n0, are different, and can be written. -/
def FrL (w : World) (n0 : Nat) (A : Option Addr) (xss : List (List Int)) : Prop :=
  xss = [] ∨ ∃ b off As, A = some ⟨b, off, none⟩ ∧ n0 ≤ b ∧ b < w.heap.size ∧ Parts w n0 b off As (fun j => xss.getD j []) xss.length
theorem Parts.below {w w' : World} {n0 b off m : Nat} {As : Nat → Option Addr} {cur : Nat → List Int} (h : Parts w n0 b off As cur m) (hb : Below w.heap.size w w') (hlt : b < w.heap.size) : Parts w' n0 b off As cur m where
  cell := fun j hj => by
    obtain ⟨c, hc⟩ := h.cell j hj
    exact ⟨c, (hb.cell (p := ⟨b, off + j, none⟩) hlt).trans hc⟩
  fr := fun j hj => (h.fr j hj).below hb
  far := h.far
  apart := h.apart
theorem FrL.rd {w : World} {n0 : Nat} {A : Option Addr} {xss : List (List Int)} (h : FrL w n0 A xss) : RdL w A xss := by
  rcases h with h | ⟨b, off, As, rfl, _, hlt, hp⟩
  · exact .inl h
  · refine .inr ⟨b, off, rfl, hlt, fun j hj => ?_⟩
    obtain ⟨c, hc⟩ := hp.cell j hj
    exact ⟨As j, c, hc, (hp.fr j hj).rd⟩
theorem FrL.below {w w' : World} {n0 : Nat} {A : Option Addr} {xss : List (List Int)} (h : FrL w n0 A xss) (hb : Below w.heap.size w w') : FrL w' n0 A xss := by
  rcases h with h | ⟨b, off, As, rfl, h1, hlt, hp⟩
  · exact .inl h
  · exact .inr ⟨b, off, As, rfl, h1, Nat.lt_of_lt_of_le hlt hb.size, hp.below hb hlt⟩
theorem FrL.mono {w : World} {n0 n1 : Nat} {A : Option Addr} {xss : List (List Int)} (h : FrL w n0 A xss) (hn : n1 ≤ n0) : FrL w n1 A xss := by
  rcases h with h | ⟨b, off, As, rfl, h1, hlt, hp⟩
  · exact .inl h
  · exact .inr ⟨b, off, As, rfl, by omega, hlt, hp.cell, fun j hj => (hp.fr j hj).mono hn, hp.far, hp.apart⟩
theorem FrL.away {w w' : World} {n0 g off : Nat} {A : Option Addr} {xss : List (List Int)} (h : FrL w n0 A xss) (ho : Only (some ⟨g, off, none⟩) w w') (hg : g < n0) : FrL w' n0 A xss := by
  rcases h with h | ⟨b, off', As, rfl, h1, hlt, hp⟩
  · exact .inl h
  · refine .inr ⟨b, off', As, rfl, h1, Nat.lt_of_lt_of_le hlt ho.size, fun j hj => ?_, fun j hj => (hp.fr j hj).away ho hg, hp.far, hp.apart⟩
    obtain ⟨c, hc⟩ := hp.cell j hj
    have hblk := ho.block b hlt (fun o e => by injection e with e; injection e with e; omega)
    exact ⟨c, (World.cell?_of_block (w := w) (a := ⟨b, off' + j, none⟩) hblk).trans hc⟩
/-- How many ints lie before list j. -/
def offL (xss : List (List Int)) (j : Nat) : Nat := ((xss.take j).map List.length).sum
theorem offL_succ {xss : List (List Int)} {j : Nat} (h : j < xss.length) : offL xss (j + 1) = offL xss j + (xss.getD j []).length := by
  unfold offL
  have e : xss.take (j + 1) = xss.take j ++ [xss[j]] := List.take_succ_eq_append_getElem h
  rw [e, List.map_append, List.sum_append]
  simp [List.getD, h]
theorem offL_mono (xss : List (List Int)) : ∀ {i j : Nat}, i ≤ j → offL xss i ≤ offL xss j := by
  intro i j h
  induction j with
  | zero => have : i = 0 := by omega
            subst this; exact Nat.le_refl _
  | succ j ih =>
    by_cases e : i = j + 1
    · subst e; exact Nat.le_refl _
    · have h1 := ih (by omega)
      by_cases hj : j < xss.length
      · rw [offL_succ hj]; omega
      · have : offL xss (j + 1) = offL xss j := by unfold offL; rw [List.take_of_length_le (by omega), List.take_of_length_le (by omega)]
        omega
/-- All ints. -/
def totL (xss : List (List Int)) : Nat := offL xss xss.length
/-- The marks. -/
def markL (k : Nat) (xss : List (List Int)) : List (List Int) := (List.range xss.length).map fun j => iotaI (k + offL xss j) (xss.getD j []).length
theorem markL_len (k : Nat) (xss : List (List Int)) : (markL k xss).length = xss.length := by simp [markL]
theorem markL_get (k : Nat) (xss : List (List Int)) {j : Nat} (h : j < xss.length) : (markL k xss).getD j [] = iotaI (k + offL xss j) (xss.getD j []).length := by simp [markL, List.getD, h]
/-- The lists while those before i are marked. -/
def curL (k : Nat) (xss : List (List Int)) (i : Nat) (j : Nat) : List Int := if j < i then iotaI (k + offL xss j) (xss.getD j []).length else xss.getD j []
theorem curL_len (k : Nat) (xss : List (List Int)) (i j : Nat) : (curL k xss i j).length = (xss.getD j []).length := by
  unfold curL; split
  · rw [iotaI_len]
  · rfl
set_option maxHeartbeats 4000000 in
theorem markLL_b (A : Option Addr) (m c k n0 : Nat) (xss : List (List Int)) (w : World) (hn : xss.length = m) (hl : m ≤ 100000) (ht : totL xss ≤ 100000000) (hk : k ≤ 100000000000) (hn0 : n0 ≤ w.heap.size) (hr : FrL w n0 A xss) :
    Calls Try.prog 19 #[.slice A m c, .int .i64 k] w fun e w' => e = .returned (.int .i64 ((k + totL xss : Nat) : Int)) ∧ Below n0 w w' ∧ FrL w' n0 A (markL k xss) := by
  rcases hr with rfl | ⟨b, off, As, rfl, hb0, hlt, hp⟩
  · simp only [List.length_nil] at hn
    subst hn
    go_enter Try.func19, Try.ntmps19
    go_wp2
    go_loopw [1, 5] (fun kv iv wr => kv = .int .i64 k ∧ iv = .int .i64 0 ∧ w = wr) (fun _ _ _ => 0)
    case atStart => exact ⟨rfl, rfl, rfl⟩
    case round =>
      obtain ⟨rfl, rfl, rfl⟩ := hrel
      go_wp2
      go_ret
      exact ⟨by simp [totL, offL], Below.refl _ _, .inl (by simp [markL])⟩
  · have Hm := Lib.hid hn
    have Hp : Hid (Parts w n0 b off As (curL k xss 0) m) := by
      show Parts _ _ _ _ _ _ _
      rw [hn] at hp
      exact hp
    have Htot : Hid (∀ j, j ≤ m → offL xss j ≤ totL xss) := fun j hj => offL_mono xss (by omega)
    have Hsu : Hid (∀ j, j < m → offL xss (j + 1) = offL xss j + (xss.getD j []).length) := fun j hj => offL_succ (by omega)
    have Htm : Hid (totL xss = offL xss m) := by show _ = _; rw [totL, hn]
    obtain ⟨T, HT⟩ : ∃ T, Hid (totL xss = T) := ⟨_, rfl⟩
    rw [HT.out] at ht Htot Htm
    simp only [HT.out]
    clear hn hp
    go_enter Try.func19, Try.ntmps19
    go_wp2
    go_loopw [1, 5] (fun kv iv wr => ∃ j, j ≤ m ∧ kv = .int .i64 ((k + offL xss j : Nat) : Int) ∧ iv = .int .i64 (j : Nat) ∧ Hid (Parts wr n0 b off As (curL k xss j) m) ∧ Hid (Below n0 w wr) ∧ Hid (w.heap.size ≤ wr.heap.size)) (fun _ iv _ => m - (intOf iv).toNat)
    case atStart => exact ⟨0, Nat.zero_le _, by simp [offL], rfl, Hp, Below.refl _ _, Nat.le_refl _⟩
    case round =>
      clear Hp
      obtain ⟨j, hj, rfl, rfl, HP, HB, HS⟩ := hrel
      by_cases hjm : j < m
      · obtain ⟨ej, ej2, ej3⟩ := idxF j m hjm
        obtain ⟨cj, hcj⟩ := HP.out.cell j hjm
        have hfr := HP.out.fr j hjm
        have hcur : curL k xss j j = xss.getD j [] := by unfold curL; rw [if_neg (by omega)]
        rw [hcur] at hcj hfr
        have ho1 := Htot.out j (by omega)
        have ho2 := Htot.out (j + 1) (by omega)
        have ho3 := Hsu.out j hjm
        have hs := HS.out
        have cm := markI_b (As j) (xss.getD j []).length cj (k + offL xss j) n0 (xss.getD j []) wr rfl (by omega) (by omega) (by omega) hfr
        have Hj := Lib.hid ho3
        obtain ⟨K, HK⟩ : ∃ K, Hid (k + offL xss j = K) := ⟨_, rfl⟩
        obtain ⟨l, Hl⟩ : ∃ l, Hid ((xss.getD j []).length = l) := ⟨_, rfl⟩
        rw [HK.out, Hl.out] at cm
        rw [Hl.out] at hcj
        rw [HK.out]
        clear hfr hcur ho1 ho2 ho3
        go_wp2_with fail
        refine cm.mono ?_
        rintro e w1 ⟨rfl, hon, hb1, hfr1⟩
        have HP1 : Hid (Parts w1 n0 b off As (curL k xss (j + 1)) m) := by
          refine ⟨fun i hi => ?_, fun i hi => ?_, HP.out.far, HP.out.apart⟩
          · obtain ⟨ci, hci⟩ := HP.out.cell i hi
            rw [curL_len] at hci ⊢
            refine ⟨ci, ?_⟩
            have hbl : b < wr.heap.size := by omega
            have hblk := hon.block b hbl (fun o e => HP.out.far j hjm b o e rfl)
            exact (World.cell?_of_block (w := wr) (a := ⟨b, off + i, none⟩) hblk).trans hci
          · by_cases e : i = j
            · subst e
              have : curL k xss (i + 1) i = iotaI K l := by unfold curL; rw [if_pos (by omega), HK.out, Hl.out]
              rw [this]; exact hfr1
            · have h9 := HP.out.fr i hi
              have : curL k xss (j + 1) i = curL k xss j i := by
                unfold curL
                by_cases h8 : i < j
                · rw [if_pos h8, if_pos (by omega)]
                · rw [if_neg h8, if_neg (by omega)]
              rw [this]
              exact h9.only hon fun g o o' _ h1 => HP.out.apart i j hi hjm e g o o' h1
        have HB1 : Hid (Below n0 w w1) := HB.out.trans hb1
        have HS1 : Hid (w.heap.size ≤ w1.heap.size) := Nat.le_trans HS.out hon.size
        clear hon hb1 hfr1
        go_wp2
        exact ⟨⟨j + 1, by omega, by { rw [Hj.out, ← HK.out, ← Hl.out]; congr 1; omega }, by go_num, HP1, HB1, HS1⟩, by simp [intOf]; omega⟩
      · obtain rfl : m = j := by omega
        go_wp2
        go_ret
        refine ⟨by rw [Htm.out]; rfl, HB.out, .inr ⟨b, off, As, rfl, hb0, Nat.lt_of_lt_of_le hlt HS.out, ?_⟩⟩
        rw [markL_len, Hm.out]
        have h0 : ∀ i, i < m → curL k xss m i = (markL k xss).getD i [] := fun i hi => by rw [markL_get k xss (by rw [Hm.out]; exact hi)]; unfold curL; rw [if_pos hi]
        refine ⟨fun i hi => ?_, fun i hi => ?_, HP.out.far, HP.out.apart⟩
        · have := HP.out.cell i hi
          rw [h0 i hi] at this
          exact this
        · have := HP.out.fr i hi
          rw [h0 i hi] at this
          exact this
theorem rdL_below {w w' : World} {A : Option Addr} {xss : List (List Int)} (h : RdL w A xss) (hb : Below w.heap.size w w') : RdL w' A xss := by
  rcases h with h | ⟨b, off, rfl, hlt, hc⟩
  · exact .inl h
  · refine .inr ⟨b, off, rfl, Nat.lt_of_lt_of_le hlt hb.size, fun j hj => ?_⟩
    obtain ⟨A', c, h1, h2⟩ := hc j hj
    exact ⟨A', c, (hb.cell (p := ⟨b, off + j, none⟩) hlt).trans h1, h2.below hb⟩
set_option maxHeartbeats 4000000 in
theorem heldLL_b (A : Option Addr) (m c k : Nat) (xss : List (List Int)) (w : World) (hn : xss.length = m) (hl : m ≤ 100000) (ht : totL xss ≤ 100000000) (hk : k ≤ 100000000000) (hr : RdL w A (markL k xss)) :
    Calls Try.prog 20 #[.slice A m c, .int .i64 k] w fun e w' => e = .returned (.int .i64 ((k + totL xss : Nat) : Int)) ∧ Below w.heap.size w w' := by
  have Hm := Lib.hid hn
  have Hre := Lib.hid fun W (hW : Below w.heap.size w W) => rdL_below hr hW
  have Htot : Hid (∀ j, j ≤ m → offL xss j ≤ totL xss) := fun j hj => offL_mono xss (by omega)
  have Hsu : Hid (∀ j, j < m → offL xss (j + 1) = offL xss j + (xss.getD j []).length) := fun j hj => offL_succ (by omega)
  have Htm : Hid (totL xss = offL xss m) := by show _ = _; rw [totL, hn]
  obtain ⟨T, HT⟩ : ∃ T, Hid (totL xss = T) := ⟨_, rfl⟩
  rw [HT.out] at ht Htot Htm
  simp only [HT.out]
  clear hn hr
  go_enter Try.func20, Try.ntmps20
  go_wp2
  go_loopw [1, 5] (fun kv iv wr => ∃ j, j ≤ m ∧ kv = .int .i64 ((k + offL xss j : Nat) : Int) ∧ iv = .int .i64 (j : Nat) ∧ Hid (Below w.heap.size w wr)) (fun _ iv _ => m - (intOf iv).toNat)
  case atStart => exact ⟨0, Nat.zero_le _, by simp [offL], rfl, by show Below _ _ _; exact Below.refl _ _⟩
  case round =>
    obtain ⟨j, hj, rfl, rfl, HB⟩ := hrel
    by_cases hjm : j < m
    · obtain ⟨ej, ej2, ej3⟩ := idxF j m hjm
      obtain ⟨b, off, rfl, hb, hc⟩ := (Hre.out wr HB.out).pos (by rw [markL_len, Hm.out]; omega)
      obtain ⟨Aj, cj, hcj, hrj⟩ := hc j (by rw [markL_len, Hm.out]; exact hjm)
      rw [markL_get k xss (by rw [Hm.out]; exact hjm)] at hcj hrj
      rw [iotaI_len] at hcj
      have ho1 := Htot.out j (by omega)
      have ho2 := Htot.out (j + 1) (by omega)
      have ho3 := Hsu.out j hjm
      have cm := heldI_b Aj (xss.getD j []).length cj (k + offL xss j) wr (by omega) (by omega) hrj
      have Hj := Lib.hid ho3
      obtain ⟨K, HK⟩ : ∃ K, Hid (k + offL xss j = K) := ⟨_, rfl⟩
      obtain ⟨l, Hl⟩ : ∃ l, Hid ((xss.getD j []).length = l) := ⟨_, rfl⟩
      rw [HK.out, Hl.out] at cm
      rw [Hl.out] at hcj
      rw [HK.out]
      have hneg : ¬ ((K : Int) + (l : Int) < 0) := by omega
      have hneg2 : ¬ (((K + l : Nat) : Int) < 0) := by omega
      clear hc hrj ho1 ho2 ho3
      go_wp2_with fail
      refine cm.mono ?_
      rintro e w1 ⟨rfl, hb1⟩
      have HB1 : Hid (Below w.heap.size w w1) := HB.out.trans (hb1.mono HB.out.size)
      clear hb1
      go_wp2
      exact ⟨⟨j + 1, by omega, by { rw [Hj.out, ← HK.out, ← Hl.out]; congr 1; omega }, by go_num, HB1⟩, by simp [intOf]; omega⟩
    · obtain rfl : m = j := by omega
      go_wp2
      go_ret
      exact ⟨by rw [Htm.out]; rfl, HB.out⟩
set_option maxHeartbeats 4000000 in
theorem eqLL_b (A B : Option Addr) (m c c' : Nat) (xss : List (List Int)) (w : World) (hn : xss.length = m) (hl : m ≤ 100000) (ht : totL xss ≤ 1000000) (hr : RdL w A xss) (hr' : RdL w B xss) :
    Calls Try.prog 14 #[.slice A m c, .slice B m c'] w fun e w' => e = .returned (.bool true) ∧ Below w.heap.size w w' := by
  have Hm := Lib.hid hn
  have Hre := Lib.hid fun W (hW : Below w.heap.size w W) => rdL_below hr hW
  have Hre' := Lib.hid fun W (hW : Below w.heap.size w W) => rdL_below hr' hW
  have Hlen : Hid (∀ j, j < m → (xss.getD j []).length ≤ 1000000) := fun j hj => by
    have h1 := offL_succ (xss := xss) (j := j) (by omega)
    have h2 := offL_mono xss (i := j + 1) (j := m) (by omega)
    have h3 : totL xss = offL xss m := by rw [totL, hn]
    omega
  clear hn hr hr' ht
  go_enter Try.func14, Try.ntmps14
  go_wp2
  go_loopw [5] (fun iv wr => ∃ j, j ≤ m ∧ iv = .int .i64 (j : Nat) ∧ Hid (Below w.heap.size w wr)) (fun iv _ => m - (intOf iv).toNat)
  case atStart => exact ⟨0, Nat.zero_le _, rfl, by show Below _ _ _; exact Below.refl _ _⟩
  case round =>
    obtain ⟨j, hj, rfl, HB⟩ := hrel
    by_cases hjm : j < m
    · obtain ⟨ej, ej2, ej3⟩ := idxF j m hjm
      obtain ⟨b, off, rfl, hb, hc⟩ := (Hre.out wr HB.out).pos (by rw [Hm.out]; omega)
      obtain ⟨Aj, cj, hcj, hrj⟩ := hc j (by rw [Hm.out]; exact hjm)
      obtain ⟨b', off', rfl, hb', hc'⟩ := (Hre'.out wr HB.out).pos (by rw [Hm.out]; omega)
      obtain ⟨Aj', cj', hcj', hrj'⟩ := hc' j (by rw [Hm.out]; exact hjm)
      have hlj := Hlen.out j hjm
      obtain ⟨l, Hl⟩ : ∃ l, Hid ((xss.getD j []).length = l) := ⟨_, rfl⟩
      rw [Hl.out] at hcj hcj' hlj
      have ce := Lib.hid fun W (hW : Below wr.heap.size wr W) => eqInt64S_same Aj Aj' cj cj' (xss.getD j []) l W Hl (by omega) (hrj.below hW) (hrj'.below hW)
      clear hc hc' hrj hrj'
      go_wp2
      refine wp_region_noPanic ?_
      refine wp_region_held_drew (S := (fun w' => w'.cell? ⟨b, off + j, none⟩ = some (.slice Aj l cj) ∧ w'.cell? ⟨b', off' + j, none⟩ = some (.slice Aj' l cj'))) (by kernel_rfl) ?_ (fun hHeld => ?_)
      · (try dsimp only); (first | go_keep | (obtain ⟨hq, _⟩ := bcell ‹Below _ _ _›; (repeat' apply And.intro) <;> (rw [hq _ _ (by first | assumption | omega | (simp; done) | (simp; omega) | (simp; assumption))] <;> (first | assumption | (simp [*]; done)))))
      refine wpAnyH_take_d (i := 0) (d := some 17) (v := ?v1) rfl rfl (by kernel_rfl) (by kernel_rfl) (by kernel_rfl) (fun _ _ _ h => h) (Or.inl ⟨by kernel_rfl, ?y1⟩) (by assumption) ?_
      case y1 => (intro w' hSw; (try dsimp only at hSw); go_simp; try with_reducible rfl)
      try simp only [Act.put, List.setIfInBounds_toArray, List.set_cons_zero, List.set_cons_succ]
      refine wpAnyH_take_d (i := 1) (d := some 18) (v := ?v2) rfl rfl (by kernel_rfl) (by kernel_rfl) (by kernel_rfl) (fun _ _ _ h => h) (Or.inl ⟨by kernel_rfl, ?y2⟩) (by assumption) ?_
      case y2 => (intro w' hSw; (try dsimp only at hSw); go_simp; try with_reducible rfl)
      try simp only [Act.put, List.setIfInBounds_toArray, List.set_cons_zero, List.set_cons_succ]
      refine wpAnyH_take_d (i := 2) (d := some 19) (v := ?v3) rfl rfl (by kernel_rfl) (by kernel_rfl) (by kernel_rfl) (fun _ _ _ h => h) (Or.inl ⟨by kernel_rfl, ?y3⟩) (by assumption) ?_
      case y3 => (intro w' hSw; (try dsimp only at hSw); go_simp; try with_reducible rfl)
      try simp only [Act.put, List.setIfInBounds_toArray, List.set_cons_zero, List.set_cons_succ]
      refine wpAnyH_take_d (i := 3) (d := some 20) (v := ?v4) rfl rfl (by kernel_rfl) (by kernel_rfl) (by kernel_rfl) (fun _ _ _ h => h) (Or.inl ⟨by kernel_rfl, ?y4⟩) (by assumption) ?_
      case y4 => (intro w' hSw; (try dsimp only at hSw); go_simp; try with_reducible rfl)
      try simp only [Act.put, List.setIfInBounds_toArray, List.set_cons_zero, List.set_cons_succ]
      refine wpAnyH_take_d (i := 4) (d := some 21) (v := ?v5) rfl rfl (by kernel_rfl) (by kernel_rfl) (by kernel_rfl) (fun _ _ _ h => h) (Or.inl ⟨by kernel_rfl, ?y5⟩) (by assumption) ?_
      case y5 => (intro w' hSw; (try dsimp only at hSw); go_simp; try with_reducible rfl)
      try simp only [Act.put, List.setIfInBounds_toArray, List.set_cons_zero, List.set_cons_succ]
      refine wpAnyH_take_d (i := 5) (d := some 22) (v := ?v6) rfl rfl (by kernel_rfl) (by kernel_rfl) (by kernel_rfl) (fun _ _ _ h => h) (Or.inl ⟨by kernel_rfl, ?y6⟩) (by assumption) ?_
      case y6 => (intro w' hSw; (try dsimp only at hSw); go_simp; try with_reducible rfl)
      try simp only [Act.put, List.setIfInBounds_toArray, List.set_cons_zero, List.set_cons_succ]
      refine wpAnyH_take_d (i := 6) (d := some 23) (v := ?v7) rfl rfl (by kernel_rfl) (by kernel_rfl) (by kernel_rfl) (fun _ _ _ h => h) (Or.inl ⟨by kernel_rfl, ?y7⟩) (by assumption) ?_
      case y7 => (intro w' hSw; (try dsimp only at hSw); go_simp; try with_reducible rfl)
      try simp only [Act.put, List.setIfInBounds_toArray, List.set_cons_zero, List.set_cons_succ]
      refine wpAnyH_take_d (i := 7) (d := some 24) (v := ?v8) rfl rfl (by kernel_rfl) (by kernel_rfl) (by kernel_rfl) (fun _ _ _ h => h) (Or.inl ⟨by kernel_rfl, ?y8⟩) (by assumption) ?_
      case y8 => (intro w' hSw; (try dsimp only at hSw); go_simp; try with_reducible rfl)
      try simp only [Act.put, List.setIfInBounds_toArray, List.set_cons_zero, List.set_cons_succ]
      refine wpAnyH_ready (rs := [8]) (by kernel_rfl) (by simp) ?_
      refine AllReadyH.cons rfl (fun K hK => ?_) AllReadyH.nil
      go_simp
      refine (ce.out _ (by (repeat' (first | (with_reducible exact Below.refl _ _) | (with_reducible assumption) | (with_reducible refine Below.alloc ?_ ?_ _) | (with_reducible refine Below.drew ?_) | (with_reducible refine below_drewN ?_ _) | (with_reducible refine Below.setCell ?_ ?_ _) | (with_reducible refine Below.trans ?_ (Below.mono (by assumption) ?_)) | (first | omega | (simp only [World.size_alloc, World.size_setCell, World.size_drew]; omega) | (simp; omega) | (simp; done)))))).mono ?_; rintro e w1 ⟨rfl, hb1⟩; have z1 := hb1.size; (try simp only [World.size_alloc, World.size_setCell, World.size_drew] at z1)
      refine hK.out _ _ ?s9 (fun hHeld9 => ?_)
      case s9 => ((try dsimp only); (first | go_keep | (obtain ⟨hq, _⟩ := bcell ‹Below _ _ _›; (repeat' apply And.intro) <;> (rw [hq _ _ (by first | assumption | omega | (simp; done) | (simp; omega) | (simp; assumption))] <;> (first | assumption | (simp [*]; done))))))
      clear hK K hHeld
      have hHeld := hHeld9; clear hHeld9
      try simp only [Act.put, List.setIfInBounds_toArray, List.set_cons_zero, List.set_cons_succ]
      refine wpAnyH_take_d (i := 9) (d := some 26) (v := ?v10) rfl rfl (by kernel_rfl) (by kernel_rfl) (by kernel_rfl) (fun _ _ _ h => h) (Or.inl ⟨by kernel_rfl, ?y10⟩) (by assumption) ?_
      case y10 => (intro w' hSw; (try dsimp only at hSw); go_simp; try with_reducible rfl)
      try simp only [Act.put, List.setIfInBounds_toArray, List.set_cons_zero, List.set_cons_succ]
      refine wpAnyH_done (by kernel_rfl) ?_ _
      refine NoPanic.normal ?_
      clear hHeld hcj hcj'
      have HB1 : Hid (Below w.heap.size w w1) := HB.out.trans ((Below.drew (Below.refl _ _) |>.trans hb1).mono HB.out.size)
      clear hb1
      go_wp2
      exact ⟨⟨j + 1, by omega, by go_num, HB1⟩, by simp [intOf]; omega⟩
    · obtain rfl : m = j := by omega
      go_wp2
      go_ret
      exact ⟨rfl, HB.out⟩
end Go.Proofs.Ytigdfcigoejjjaa
