/- expanded: the program's call of a function with all sets of edges. -/
import Derived.Test.YtkpnplldnihalaaEx3
import Derived.Laws.EntriesVeiled
namespace Go.Proofs.Ytkpnplldnihalaa
open Go.RowKit
set_option linter.unusedSimpArgs false
set_option linter.unusedVariables false
set_option maxRecDepth 20000

/-- The walk's variables, without the block that the calls change. -/
structure EnvC (W : World) (h : Nat) (n : Int) (A : Option Addr) (L c d : Nat) (lb : Array Value) : Prop where
  lt : h + 2 < W.heap.size
  c0 : W.cell? ⟨h, 0, none⟩ = some (.int .i64 n)
  c1 : W.cell? ⟨h, 1, none⟩ = some (.slice A L c)
  c2 : W.cell? ⟨h + 1, 0, none⟩ = some (.func (.func d) #[] lb)
  c3 : W.cell? ⟨h + 2, 0, none⟩ = some (.func (.func 128) #[] #[.pointer (some ⟨h, 0, none⟩), .pointer (some ⟨h + 1, 0, none⟩), .pointer (some ⟨h + 2, 0, none⟩)])
theorem EnvC.below {W W' : World} {h : Nat} {n : Int} {A : Option Addr} {L c d : Nat} {lb : Array Value} (e : EnvC W h n A L c d lb) (hb : Below (h + 3) W W') : EnvC W' h n A L c d lb := by
  have hl := e.lt
  obtain ⟨key, _⟩ := bcell hb
  exact ⟨Nat.lt_of_lt_of_le e.lt hb.size, (key _ _ (by omega)).trans e.c0, (key _ _ (by omega)).trans e.c1, (key _ _ (by omega)).trans e.c2, (key _ _ (by omega)).trans e.c3⟩
theorem EnvC.x {W : World} {gb h : Nat} {n : Int} {A : Option Addr} {L c d : Nat} {lb : Array Value} (e : EnvC W h n A L c d lb) (hg : gb < h) : EnvX W gb h n A L c d lb :=
  ⟨e.lt, by have := e.lt; omega, by omega, by omega, by omega, e.c0, e.c1, e.c2, e.c3⟩

set_option maxHeartbeats 8000000 in
theorem expanded_b {σ : Type} (Inv : World → σ → Prop) (step : σ → Int × Int → σ) (gb N : Nat) (A : Option Addr) (c : Nat) (es : List (Int × Int)) (d : Nat) (lb : Array Value) (B : Nat) (w0 w : World) (acc : σ)
    (hN : 1 ≤ N) (hN2 : N ≤ 100) (hl : es.length ≤ 100) (hin : Hid (InN N es)) (hre : Hid (∀ W, Below B w0 W → RdE W A es)) (eg0 : Ent d) (hB : B ≤ gb) (hg : gb < w.heap.size)
    (keep : Hid (∀ W W' acc, Inv W acc → Below W.heap.size W W' → Inv W' acc))
    (hdo : Hid (∀ W acc k s, Below B w0 W → gb < W.heap.size → OkL N es.length k s → Inv W acc → Calls Try.prog d (#[.int .i64 k, .int .i64 s] ++ lb) W fun e w' => e = .returned (.tuple #[]) ∧ SameBut gb W w' ∧ Below B W w' ∧ Inv w' (step acc (k, s))))
    (hI : Hid (Inv w acc)) (hW : Hid (Below B w0 w)) :
    Calls Try.prog 99 #[.agg #[.int .i64 N, .slice A es.length c], .func (.func d) #[] lb] w fun e w' => e = .returned (.tuple #[]) ∧ SameBut gb w w' ∧ Below B w w' ∧ Inv w' ((leafs false es es.length 0 (idx N) 0 N).foldl step acc) := by
  have hmf : ∀ (fn : Fn) (first cap : Array Value) (w : World), (Instr.makeFunc fn first cap).run Try.prog w = .ok (.func fn first cap) w := fun _ _ _ _ => rfl
  obtain ⟨i0, hi, hz0, hz1, hz2⟩ := info_parts infoI
  have gr := fun (A' : Option Addr) (c' : Nat) (W : World) (hrd : Hid (RdO W gb A' (idx N))) (henv : Hid (EnvX W gb w.heap.size N A es.length c d lb)) (hI : Hid (Inv W acc)) (hW : Hid (Below B w0 W)) =>
    grow_b Inv step gb w.heap.size N N A c es d lb B w0 hN hN2 hl hin hre eg0 hB keep hdo es.length 0 A' c' (idx N) 0 N acc W (by omega) (idx_len N) ⟨by omega, by omega, by omega, by omega, by omega⟩ hrd henv hI hW
  obtain ⟨R, HR⟩ : ∃ R, Hid ((leafs false es es.length 0 (idx N) 0 N).foldl step acc = R) := ⟨_, rfl⟩
  rw [HR.out] at gr ⊢
  clear HR hdo hre hin
  generalize es.length = L at *
  go_enter Try.func99, Try.ntmps99
  go_wp2
  go_loopw [5, 10] (fun v sv wr => ∃ k : Nat, k ≤ N ∧ sv = .int .i64 k ∧ Hid (wr.ownsRow (w.heap.size + 3) 2 1 v k (cI (idx k))) ∧ Hid (EnvC wr w.heap.size N A L c d lb) ∧ Below w.heap.size w wr) (fun _ sv _ => N - (intOf sv).toNat)
  case atStart =>
    refine ⟨0, Nat.zero_le _, rfl, World.ownsRow_nil _ _ _ _, ?_, ?_⟩
    · refine ⟨by simp, ((((Blk.new w _ _).alloc _).alloc _).cellAt 0 _ rfl), ((((Blk.new w _ _).alloc _).alloc _).cellAt 1 _ rfl), (((Blk.new' (n := w.heap.size + 1) (w.alloc _) (by simp)).alloc _).cellAt 0 _ rfl), ((Blk.new' (n := w.heap.size + 2) ((w.alloc _).alloc _) (by simp)).cellAt 0 _ rfl)⟩
    · (repeat' (first | (with_reducible exact Below.refl _ _) | (with_reducible assumption) | (with_reducible refine Below.alloc ?_ ?_ _) | (with_reducible refine Below.drew ?_) | (with_reducible refine below_drewN ?_ _) | (with_reducible refine Below.setCell ?_ ?_ _) | (with_reducible refine Below.trans ?_ (Below.mono (by assumption) ?_)) | (first | omega | (simp only [World.size_alloc, World.size_setCell, World.size_drew]; omega) | (simp; omega) | (simp; done))))
  case round =>
    obtain ⟨k, hk, rfl, Hown, HE, hbel⟩ := hrel
    have hsz := HE.out.lt
    obtain ⟨A1, c1, rfl⟩ := own_form Hown.out
    by_cases hlt : k < N
    · have hb3 : Below (w.heap.size + 3) wr (wr.alloc (.cells #[.int .i64 (k : Int)] 2)) := by (repeat' (first | (with_reducible exact Below.refl _ _) | (with_reducible assumption) | (with_reducible refine Below.alloc ?_ ?_ _) | (with_reducible refine Below.drew ?_) | (with_reducible refine below_drewN ?_ _) | (with_reducible refine Below.setCell ?_ ?_ _) | (with_reducible refine Below.trans ?_ (Below.mono (by assumption) ?_)) | (first | omega | (simp only [World.size_alloc, World.size_setCell, World.size_drew]; omega) | (simp; omega) | (simp; done))))
      have hown2 := own_below Hown.out (Below.alloc (Below.refl _ _) (Nat.le_refl _) (.cells #[.int .i64 (k : Int)] 2))
      have Hn := Lib.hid (idx_snoc k)
      go_wp2_with (first
        | (at_builtin; refine wpList_append_own _ rfl _ _ 36 rfl (w.heap.size + 3) 2 i0 (.int .i64 0) 1 8 Try.underlying36 hi hz0 hz1 hz2 rfl (by decide) _ _ _ rfl hown2 ⟨wr.heap.size, 0, none⟩ 1 1 [.int .i64 (k : Int)] rfl rfl ?c1 ?c2 ?c3 ?c4 ?c5 ?_))
      case c1 =>
        intro j u hj
        match j, hj with
        | 0, hj => simp at hj; subst hj; simp [Addr.add]
      case c2 => intro u hu; simp at hu; subst hu; rfl
      case c3 => unfold maxLen; omega
      case c4 => omega
      case c5 => simp; omega
      intro v' w1 hown' hgrow _
      have hb4 : Below (w.heap.size + 3) wr w1 := own_grown_below hb3 hown2 hgrow (by simp; omega)
      have hown3 := own_snocI hown' Hn.out
      have H3 := Lib.hid hown3
      have HE1 := Lib.hid (HE.out.below hb4)
      have hb5 : Below w.heap.size w w1 := hbel.trans (hb4.mono (by omega))
      clear hown' hgrow hown2 hown3 hb3 hb4 HE Hown hbel
      go_wp2
      refine ⟨⟨k + 1, by omega, by go_num, H3, HE1, hb5⟩, by simp [intOf]; omega⟩
    · obtain rfl : k = N := by omega
      have hrd : Hid (RdO wr gb A1 (idx k)) := own_rdO Hown.out (by omega)
      have ix := idx_len k
      have Bw : Below B w wr := hbel.mono (by omega)
      have ct := gr A1 c1 wr hrd (HE.out.x hg) (keep.out _ _ _ hI.out hbel) (hW.out.trans Bw)
      have h3 := HE.out.c3
      have h0 := HE.out.c0
      have Sw : SameBut gb w wr := SameBut.of_below hbel
      clear gr hbel
      rw [show ((0 : Nat) : Int) = 0 from rfl] at ct
      go_wp2_with fail
      refine ct.mono ?_
      rintro e w2 ⟨rfl, hs2, hb2, hI2⟩
      have HI2 := Lib.hid hI2
      clear hI2 ct
      go_wp2
      go_end0
      exact ⟨rfl, Sw.trans hs2, Bw.trans hb2, HI2.out⟩
end Go.Proofs.Ytkpnplldnihalaa
