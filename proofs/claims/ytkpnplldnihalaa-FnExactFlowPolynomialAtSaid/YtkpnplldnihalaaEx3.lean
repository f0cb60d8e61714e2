/- The program's walk over all sets of edges: the function that expanded makes. -/
import Derived.Test.YtkpnplldnihalaaEx2
import Derived.Test.YtkpnplldnihalaaDt2
namespace Go.Proofs.Ytkpnplldnihalaa
open Go.RowKit
set_option linter.unusedSimpArgs false
set_option linter.unusedVariables false
set_option maxRecDepth 20000

/-- What the walk's variables hold: the graph at h, the function to call at h + 1, the walk itself at h + 2. -/
structure EnvX (W : World) (gb h : Nat) (n : Int) (A : Option Addr) (L c d : Nat) (lb : Array Value) : Prop where
  lt : h + 2 < W.heap.size
  glt : gb < W.heap.size
  n0 : h ≠ gb
  n1 : h + 1 ≠ gb
  n2 : h + 2 ≠ gb
  c0 : W.cell? ⟨h, 0, none⟩ = some (.int .i64 n)
  c1 : W.cell? ⟨h, 1, none⟩ = some (.slice A L c)
  c2 : W.cell? ⟨h + 1, 0, none⟩ = some (.func (.func d) #[] lb)
  c3 : W.cell? ⟨h + 2, 0, none⟩ = some (.func (.func 128) #[] #[.pointer (some ⟨h, 0, none⟩), .pointer (some ⟨h + 1, 0, none⟩), .pointer (some ⟨h + 2, 0, none⟩)])
theorem EnvX.keep {W W' : World} {gb h : Nat} {n : Int} {A : Option Addr} {L c d : Nat} {lb : Array Value} (e : EnvX W gb h n A L c d lb) (k : SameBut gb W W') : EnvX W' gb h n A L c d lb := by
  have hl := e.lt
  have key : ∀ b o, b < W.heap.size → b ≠ gb → W'.cell? ⟨b, o, none⟩ = W.cell? ⟨b, o, none⟩ := fun b o hb hg => World.cell?_of_block (k.2 b hb hg)
  exact ⟨Nat.lt_of_lt_of_le e.lt k.1, Nat.lt_of_lt_of_le e.glt k.1, e.n0, e.n1, e.n2, (key _ _ (by omega) e.n0).trans e.c0, (key _ _ (by omega) e.n0).trans e.c1, (key _ _ (by omega) e.n1).trans e.c2, (key _ _ (by omega) e.n2).trans e.c3⟩
theorem RdO.pos {w : World} {g : Nat} {A : Option Addr} {xs : List Int} (h : RdO w g A xs) (hp : 0 < xs.length) : ∃ b off, A = some ⟨b, off, none⟩ ∧ b ≠ g ∧ b < w.heap.size ∧ ∀ j, j < xs.length → w.cell? ⟨b, off + j, none⟩ = some (.int .i64 (xs.getD j 0)) := by
  rcases h with h | h
  · rw [h] at hp; simp at hp
  · exact h

set_option maxHeartbeats 8000000 in
theorem grow_b {σ : Type} (Inv : World → σ → Prop) (step : σ → Int × Int → σ) (gb h N : Nat) (n : Int) (A : Option Addr) (c : Nat) (es : List (Int × Int)) (d : Nat) (lb : Array Value) (B : Nat) (w0 : World)
    (hN : 1 ≤ N) (hN2 : N ≤ 100) (hl : es.length ≤ 100) (hin : Hid (InN N es)) (hre : Hid (∀ W, Below B w0 W → RdE W A es)) (eg0 : Ent d) (hB : B ≤ gb)
    (keep : Hid (∀ W W' acc, Inv W acc → Below W.heap.size W W' → Inv W' acc))
    (hdo : Hid (∀ W acc k s, Below B w0 W → gb < W.heap.size → OkL N es.length k s → Inv W acc → Calls Try.prog d (#[.int .i64 k, .int .i64 s] ++ lb) W fun e w' => e = .returned (.tuple #[]) ∧ SameBut gb W w' ∧ Below B W w' ∧ Inv w' (step acc (k, s)))) :
    ∀ (r i : Nat) (A' : Option Addr) (c' : Nat) (x : List Int) (k s : Int) (acc : σ) (W : World), i + r = es.length → Hid (x.length = N) → OkL N i k s → Hid (RdO W gb A' x) → Hid (EnvX W gb h n A es.length c d lb) → Hid (Inv W acc) → Hid (Below B w0 W) →
      Calls Try.prog 128 #[.int .i64 i, .slice A' N c', .int .i64 k, .int .i64 s, .pointer (some ⟨h, 0, none⟩), .pointer (some ⟨h + 1, 0, none⟩), .pointer (some ⟨h + 2, 0, none⟩)] W fun e w' => e = .returned (.tuple #[]) ∧ SameBut gb W w' ∧ Below B W w' ∧ Inv w' ((leafs false es r i x k s).foldl step acc) := by
  have eg := eg0
  unfold Ent at eg
  clear eg0
  intro r
  induction r with
  | zero =>
    intro i A' c' x k s acc W hi hx hok hrd henv hI hW
    have h1 := henv.out.c1
    have h2 := henv.out.c2
    have hc := hdo.out W acc k s hW.out henv.out.glt (by rw [show es.length = i by omega]; exact hok) hI.out
    have hiL : es.length = i := by omega
    rw [hiL] at h1
    clear hdo keep hin hre hok hiL hi hl
    go_enter Try.func128, Try.ntmps128
    go_wp2_with fail
    refine hc.mono ?_
    rintro e w1 ⟨rfl, hs, hb, hI1⟩
    have HI1 := Lib.hid hI1
    clear hI1
    go_wp2
    refine bodyPost_ret (results_none rfl _ _ _) rfl ?_
    exact ⟨rfl, hs, hb, by simpa [leafs] using HI1.out⟩
  | succ r ih =>
    intro i A' c' x k s acc W hi hx hok hrd henv hI hW
    obtain ⟨k0, k1, s0, s1, ks⟩ := id hok
    have ih1 := ih (i + 1) A' c' x k s acc W (by omega) hx hok.skip hrd henv hI hW
    rw [show ((i + 1 : Nat) : Int) = (i : Int) + 1 from rfl] at ih1
    have h1 := henv.out.c1
    have h3 := henv.out.c3
    obtain ⟨a, b, hab, ha, hb⟩ := hin.out i (by omega)
    have Hab := Lib.hid hab
    have hiL : i < es.length := by omega
    have HL : ∃ L, Hid (es.length = L) := ⟨_, rfl⟩
    obtain ⟨L, HL⟩ := HL
    rw [HL.out] at h1 hl
    have hiL2 : i < L := by rw [← HL.out]; exact hiL
    have m1 : ¬ ((i : Int) = L) := by omega
    clear hdo
    go_enter Try.func128, Try.ntmps128
    go_wp2_with fail
    refine ih1.mono ?_
    rintro e w1 ⟨rfl, hs1, hb1, hI1⟩
    clear ih1 h1 h3 hI
    obtain ⟨acc1, Hacc1⟩ : ∃ q, Hid ((leafs false es r (i + 1) x k s).foldl step acc = q) := ⟨_, rfl⟩
    rw [Hacc1.out] at hI1
    have HI1 := Lib.hid hI1; clear hI1
    have env1 := Lib.hid (henv.out.keep hs1)
    have rd1 := Lib.hid (hrd.out.keep hs1)
    have W1 : Hid (Below B w0 w1) := hW.out.trans hb1
    obtain ⟨eb, eo, rfl, heb, hce⟩ := (hre.out w1 W1.out).pos (by omega)
    obtain ⟨e0, e1⟩ := hce i hiL
    rw [hab] at e0 e1
    dsimp only at e0 e1
    obtain ⟨xb, xo, rfl, hxg, hxb, hcx⟩ := rd1.out.pos (by rw [hx.out]; omega)
    have x0 := hcx a (by rw [hx.out]; omega)
    have x1 := hcx b (by rw [hx.out]; omega)
    obtain ⟨va, Hva⟩ : ∃ v, Hid (x.getD a 0 = v) := ⟨_, rfl⟩
    obtain ⟨vb, Hvb⟩ : ∃ v, Hid (x.getD b 0 = v) := ⟨_, rfl⟩
    rw [Hva.out] at x0
    rw [Hvb.out] at x1
    have h1 := env1.out.c1
    rw [HL.out] at h1
    obtain ⟨ii, ii2, ii3⟩ := idxF i L hiL2
    obtain ⟨ia, ia2, ia3⟩ := idxF a N ha
    obtain ⟨ib, ib2, ib3⟩ := idxF b N hb
    clear hce hcx hab hrd henv
    go_wp2
    go_quiet (fail)
    rename_i nq
    have hs2 : SameBut gb w1 (w1.drewN nq) := SameBut.of_below (below_drewN (Below.refl _ _) nq)
    have env2 := Lib.hid (env1.out.keep hs2)
    have rd2 := Lib.hid (rd1.out.keep hs2)
    have hb2 : Below B w1 (w1.drewN nq) := below_drewN (Below.refl _ _) nq
    have I2 := Lib.hid (keep.out _ _ _ HI1.out (below_drewN (Below.refl _ _) nq))
    have HW2 : Hid (Below B w0 (w1.drewN nq)) := W1.out.trans hb2
    have S2 := hs1.trans hs2
    have B2 := hb1.trans hb2
    clear HI1 env1 rd1 W1 e0 e1 x0 x1 h1 hs2 hb2 ii ii2 ii3 ia ia2 ia3 ib ib2 ib3 hs1 hb1
    generalize w1.drewN nq = w2 at *
    have h3 := env2.out.c3
    have hleaf : Hid ((leafs false es (r + 1) i x k s).foldl step acc = (if va = vb then leafs false es r (i + 1) x (k + 1) s else leafs false es r (i + 1) (mergeL vb va x) (k + 1) (s - 1)).foldl step acc1) := by
      show _ = _
      simp only [leafs, Hab.out, Int.toNat_natCast, List.foldl_append, Hacc1.out, Hva.out, Hvb.out, Bool.false_eq_true, if_false]
    by_cases e : va = vb
    · subst e
      have ih2 := ih (i + 1) (some ⟨xb, xo, none⟩) c' x (k + 1) s acc1 w2 (by omega) hx hok.take rd2 env2 I2 HW2
      rw [show ((i + 1 : Nat) : Int) = (i : Int) + 1 from rfl] at ih2
      go_wp2_with fail
      refine ih2.mono ?_
      rintro e w3 ⟨rfl, hs3, hb3, hI3⟩
      have HI3 := Lib.hid hI3
      clear hI3 ih2 ih
      go_wp2
      refine bodyPost_ret (results_none rfl _ _ _) rfl ?_
      refine ⟨rfl, S2.trans hs3, B2.trans hb3, ?_⟩
      rw [hleaf.out]; first | rw [if_pos rfl] | rw [if_pos trivial]
      exact HI3.out
    · have cl := cloneI_b (some ⟨xb, xo, none⟩) c' x w2 (by rw [hx.out]; omega) (by rw [hx.out]; omega) rd2.out.rd
      rw [hx.out] at cl
      go_wp2_with fail
      refine cl.mono ?_
      rintro e' w3 ⟨g3, c3, rfl, hown, hb3⟩
      have Hg3 : Hid (w2.heap.size ≤ g3 ∧ g3 < w3.heap.size) := by
        obtain ⟨g, c, hv, h4, h5⟩ := own_someI hown (by omega)
        injection hv with h6 _ _; injection h6 with h6; injection h6 with h6 _ _; subst h6; exact ⟨h4, h5⟩
      have Hown : Hid (w3.ownsRow w2.heap.size 2 1 (.slice (some ⟨g3, 0, none⟩) N c3) N (cI (mergeTo vb va x 0))) := by show World.ownsRow _ _ _ _ _ _ _; rw [mergeTo_zero]; exact hown
      have HB3 := Lib.hid hb3
      clear hown cl hb3 h3
      go_wp2_with fail
      go_loopw [65] (fun sv wr => ∃ v : Nat, v ≤ N ∧ sv = .int .i64 v ∧ Hid (wr.ownsRow w2.heap.size 2 1 (.slice (some ⟨g3, 0, none⟩) N c3) N (cI (mergeTo vb va x v))) ∧ Hid (Below w2.heap.size w2 wr)) (fun sv _ => N - (intOf sv).toNat)
      case atStart => exact ⟨0, Nat.zero_le _, rfl, Hown, HB3⟩
      case round =>
        clear Hown HB3
        obtain ⟨v, hv, rfl, Hown, HB3⟩ := hrel
        have Hlen : Hid ((mergeTo vb va x v).length = N) := by show _ = _; rw [mergeTo_len]; exact hx.out
        by_cases hlt : v < N
        · have hcell := own_cellI Hown.out Hlen.out hlt
          have hfz := own_frozen Hown.out v
          obtain ⟨iv, iv2, iv3⟩ := idxF v N hlt
          have Hgd : Hid ((mergeTo vb va x v).getD v 0 = x.getD v 0) := mergeTo_getD vb va x v (by rw [hx.out]; exact hlt)
          obtain ⟨u, Hu⟩ : ∃ u, Hid (x.getD v 0 = u) := ⟨_, rfl⟩
          rw [Hgd.out, Hu.out] at hcell
          by_cases e2 : u = vb
          · subst e2
            go_wp2
            clear hcell hfz iv iv2 iv3
            refine ⟨⟨v + 1, by omega, by go_num, ?_, HB3.out.setCell (by show _ ≤ g3; exact Hg3.out.1) _⟩, by simp [intOf]; omega⟩
            have h9 := own_setI Hown.out Hlen.out hlt va
            rw [mergeTo_yes _ _ _ _ (by rw [hx.out]; exact hlt) Hu.out] at h9
            exact h9
          · have m2 : ¬ (u = vb) := e2
            go_wp2
            clear hcell hfz iv iv2 iv3
            refine ⟨⟨v + 1, by omega, by go_num, ?_, HB3⟩, by simp [intOf]; omega⟩
            rw [← mergeTo_no _ _ _ _ (by rw [hx.out]; exact hlt) (by rw [Hu.out]; exact e2)]
            exact Hown
        · obtain rfl : v = N := by omega
          have Hmrg : Hid (mergeTo vb va x v = mergeL vb va x) := by show _ = _; have h9 := mergeTo_all vb va x; rw [hx.out] at h9; exact h9
          rw [Hmrg.out] at Hown Hlen
          have S3 : SameBut gb w2 wr := SameBut.of_below HB3.out
          have hg2 := env2.out.glt
          have env4 := Lib.hid (env2.out.keep S3)
          have rd4 : Hid (RdO wr gb (some ⟨g3, 0, none⟩) (mergeL vb va x)) := own_rdO Hown.out hg2
          have I4 := Lib.hid (keep.out _ _ _ I2.out HB3.out)
          have B24 : Below B w2 wr := HB3.out.mono (by omega)
          have HW4 : Hid (Below B w0 wr) := HW2.out.trans B24
          have ih2 := ih (i + 1) (some ⟨g3, 0, none⟩) c3 (mergeL vb va x) (k + 1) (s - 1) acc1 wr (by omega) Hlen hok.join rd4 env4 I4 HW4
          rw [show ((i + 1 : Nat) : Int) = (i : Int) + 1 from rfl] at ih2
          have h3 := env4.out.c3
          go_wp2_with fail
          refine ih2.mono ?_
          rintro e' w5 ⟨rfl, hs5, hb5, hI5⟩
          have HI5 := Lib.hid hI5
          clear hI5 ih2 ih
          go_wp2
          go_end0
          refine ⟨rfl, (S2.trans S3).trans hs5, (B2.trans B24).trans hb5, ?_⟩
          rw [hleaf.out, if_neg e]; exact HI5.out
end Go.Proofs.Ytkpnplldnihalaa
