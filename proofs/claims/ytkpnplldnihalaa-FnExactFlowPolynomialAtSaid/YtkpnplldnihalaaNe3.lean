/- ContainsFunc over a list on whose elements alone the test is defined; isClose. -/
import Derived.Test.YtkpnplldnihalaaNe2
namespace Go.Proofs.Ytkpnplldnihalaa
open Go.RowKit
set_option linter.unusedSimpArgs false
set_option linter.unusedVariables false

/-- A function value that, called with an element of xs, in whatever world that has grown out of w, says p of it and leaves what was there. -/
def PredX (g : Nat) (lb : Array Value) (p : Int → Bool) (xs : List Int) (w : World) : Prop :=
  ∀ (W : World) (a : Int), a ∈ xs → Below w.heap.size w W → Calls Try.prog g (#[.int .i64 a] ++ lb) W fun e w' => e = .returned (.bool (p a)) ∧ Below W.heap.size W w'
theorem PredX.below {g : Nat} {lb : Array Value} {p : Int → Bool} {xs : List Int} {w w1 : World} (h : PredX g lb p xs w) (hb : Below w.heap.size w w1) : PredX g lb p xs w1 :=
  fun W a ha hW => h W a ha (hb.trans (hW.mono hb.size))

set_option maxHeartbeats 800000 in
theorem indexX_any (A : Option Addr) (c : Nat) (es : List Int) (n : Nat) (g : Nat) (lb : Array Value) (p : Int → Bool) (w : World) (Hn : Hid (es.length = n)) (hl : n ≤ 1048576) (hr : RdI w A es) (eg0 : Ent g) (hp : PredX g lb p es w) :
    Calls Try.prog 131 #[.slice A n c, .func (.func g) #[] lb] w fun e w' => e = .returned (.int .i64 (idxI p es)) ∧ Below w.heap.size w w' := by
  have eg := eg0
  unfold Ent at eg
  clear eg0
  go_enter Try.func131, Try.ntmps131
  go_wp2
  go_loopw [5, 8] (fun s5 s8 wr => ∃ k : Nat, k ≤ n ∧ s8 = .int .i64 k ∧ Hid (∀ j (h : j < es.length), j < k → p es[j] = false) ∧ Below w.heap.size w wr) (fun _ i _ => n - (intOf i).toNat)
  case atStart => exact ⟨0, Nat.zero_le _, rfl, (by intro j h hj; omega), by (repeat' (first | (with_reducible exact Below.refl _ _) | (with_reducible assumption) | (with_reducible refine Below.alloc ?_ ?_ _) | (with_reducible refine Below.drew ?_) | (with_reducible refine below_drewN ?_ _) | (with_reducible refine Below.setCell ?_ ?_ _) | (with_reducible refine Below.trans ?_ (Below.mono (by assumption) ?_)) | (first | omega | (simp only [World.size_alloc, World.size_setCell, World.size_drew]; omega) | (simp; omega) | (simp; done))))⟩
  case round =>
    obtain ⟨k, hk, rfl, hE, hbel⟩ := hrel
    have hsz := hbel.size
    by_cases hlt : k < n
    · obtain ⟨b, off, rfl, hb, hc⟩ := (hr.below hbel).pos (by have := Hn.out; omega)
      have hc0 := (hc k (by have := Hn.out; omega))
      clear hc hr
      obtain ⟨x, Hx⟩ : ∃ x, Hid (es.getD k 0 = x) := ⟨_, rfl⟩
      rw [Hx.out] at hc0
      obtain ⟨q, Hq⟩ : ∃ q, Hid (p x = q) := ⟨_, rfl⟩
      have hmem : x ∈ es := by
        have h : k < es.length := by have := Hn.out; omega
        have h1 := Hx.out
        simp only [List.getD_eq_getElem?_getD, List.getElem?_eq_getElem h, Option.getD_some] at h1
        rw [← h1]; exact List.getElem_mem _
      have hcall := hp wr x hmem hbel
      rw [Hq.out] at hcall
      clear hp hmem
      cases q
      · go_wp2_with fail
        refine hcall.mono ?_
        rintro e w2 ⟨rfl, hb2⟩
        go_wp2_with fail
        refine ⟨⟨k + 1, by omega, by go_num, ?_, by (repeat' (first | (with_reducible exact Below.refl _ _) | (with_reducible assumption) | (with_reducible refine Below.alloc ?_ ?_ _) | (with_reducible refine Below.drew ?_) | (with_reducible refine below_drewN ?_ _) | (with_reducible refine Below.setCell ?_ ?_ _) | (with_reducible refine Below.trans ?_ (Below.mono (by assumption) ?_)) | (first | omega | (simp only [World.size_alloc, World.size_setCell, World.size_drew]; omega) | (simp; omega) | (simp; done))))⟩, by simp [intOf]; omega⟩
        intro j h hj
        by_cases e : j = k
        · subst e
          have h1 := Hx.out
          have h2 := Hq.out
          simp only [List.getD_eq_getElem?_getD, List.getElem?_eq_getElem h, Option.getD_some] at h1
          rw [h1, h2]
        · exact hE.out j h (by omega)
      · go_wp2_with fail
        refine hcall.mono ?_
        rintro e w2 ⟨rfl, hb2⟩
        go_wp2_with fail
        go_ret
        refine ⟨?_, by (repeat' (first | (with_reducible exact Below.refl _ _) | (with_reducible assumption) | (with_reducible refine Below.alloc ?_ ?_ _) | (with_reducible refine Below.drew ?_) | (with_reducible refine below_drewN ?_ _) | (with_reducible refine Below.setCell ?_ ?_ _) | (with_reducible refine Below.trans ?_ (Below.mono (by assumption) ?_)) | (first | omega | (simp only [World.size_alloc, World.size_setCell, World.size_drew]; omega) | (simp; omega) | (simp; done))))⟩
        have h : k < es.length := by have := Hn.out; omega
        have h1 := Hx.out
        simp only [List.getD_eq_getElem?_getD, List.getElem?_eq_getElem h, Option.getD_some] at h1
        rw [idxI_hit h (fun j hj hjk => hE.out j hj hjk) (by rw [h1]; exact Hq.out)]
        rfl
    · obtain rfl : k = n := by omega
      go_wp2
      go_ret
      refine ⟨?_, hbel⟩
      rw [idxI_miss (fun j hj => hE.out j hj (by have := Hn.out; omega))]
      rfl
set_option maxHeartbeats 400000 in
theorem containsX_any (A : Option Addr) (c : Nat) (es : List Int) (n : Nat) (g : Nat) (lb : Array Value) (p : Int → Bool) (w : World) (q : Bool) (Hn : Hid (es.length = n)) (hq : Hid (es.any p = q)) (hl : n ≤ 1048576) (hr : RdI w A es) (eg0 : Ent g) (hp : PredX g lb p es w) :
    Calls Try.prog 109 #[.slice A n c, .func (.func g) #[] lb] w fun e w' => e = .returned (.bool q) ∧ Below w.heap.size w w' := by
  have hi := idxI_any p es
  rw [hq.out] at hi
  have Hi := Lib.hid hi; clear hi
  have hcall := indexX_any A c es n g lb p w Hn hl hr eg0 hp
  obtain ⟨r, Hr⟩ : ∃ r, Hid (idxI p es = r) := ⟨_, rfl⟩
  rw [Hr.out] at hcall Hi
  clear hp eg0 hr
  go_enter Try.func109, Try.ntmps109
  go_wp2_with fail
  refine hcall.mono ?_
  rintro e w2 ⟨rfl, hb2⟩
  go_wp2
  go_ret
  exact ⟨by rw [← Hi.out]; rfl, hb2⟩

/-- Edge h is near to both. -/
def midB (es : List (Int × Int)) (i j h : Nat) : Bool := nearB (es.getD i (0, 0)) (es.getD h (0, 0)) && nearB (es.getD h (0, 0)) (es.getD j (0, 0))
/-- Two edges are close. -/
def closeB (es : List (Int × Int)) (i j : Nat) : Bool := nearB (es.getD i (0, 0)) (es.getD j (0, 0)) || (List.range es.length).any (midB es i j)

theorem ent_isClose1 : Ent 134 := enters_of Try.func134 (by kernel_rfl) rfl

set_option maxHeartbeats 1000000 in
theorem isClose1_b (g0 g1 g2 : Nat) (n : Int) (A : Option Addr) (c : Nat) (es : List (Int × Int)) (i j h : Nat) (w : World) (q : Bool) (hq : Hid (midB es i j h = q)) (hi : i < es.length) (hj : j < es.length) (hh : h < es.length) (hl : es.length ≤ 1048576) (hr : RdE w A es)
    (h0 : g0 < w.heap.size) (h1 : g1 < w.heap.size) (h2 : g2 < w.heap.size)
    (hc0 : w.cell? ⟨g0, 0, none⟩ = some (.int .i64 n)) (hc1 : w.cell? ⟨g0, 1, none⟩ = some (.slice A es.length c)) (hc2 : w.cell? ⟨g1, 0, none⟩ = some (.int .i64 i)) (hc3 : w.cell? ⟨g2, 0, none⟩ = some (.int .i64 j)) :
    Calls Try.prog 134 #[.int .i64 h, .pointer (some ⟨g0, 0, none⟩), .pointer (some ⟨g1, 0, none⟩), .pointer (some ⟨g2, 0, none⟩)] w fun e w' => e = .returned (.bool q) ∧ Below w.heap.size w w' := by
  obtain ⟨q1, h1'⟩ : ∃ q1, Hid (nearB (es.getD i (0, 0)) (es.getD h (0, 0)) = q1) := ⟨_, rfl⟩
  obtain ⟨q2, h2'⟩ : ∃ q2, Hid (nearB (es.getD h (0, 0)) (es.getD j (0, 0)) = q2) := ⟨_, rfl⟩
  have Hq : Hid ((q1 && q2) = q) := by show _ = _; rw [← hq.out, ← h1'.out, ← h2'.out]; rfl
  have k1 := fun W (hW : Below w.heap.size w W) => isNear_b n A c es i h W q1 h1' hi hh hl (hr.below hW)
  have k2 := fun W (hW : Below w.heap.size w W) => isNear_b n A c es h j W q2 h2' hh hj hl (hr.below hW)
  clear hq h1' h2' hr
  generalize es.length = L at *
  cases q1
  · go_enter Try.func134, Try.ntmps134
    go_wp2_with fail
    refine (k1 _ (by (repeat' (first | (with_reducible exact Below.refl _ _) | (with_reducible assumption) | (with_reducible refine Below.alloc ?_ ?_ _) | (with_reducible refine Below.drew ?_) | (with_reducible refine below_drewN ?_ _) | (with_reducible refine Below.setCell ?_ ?_ _) | (with_reducible refine Below.trans ?_ (Below.mono (by assumption) ?_)) | (first | omega | (simp only [World.size_alloc, World.size_setCell, World.size_drew]; omega) | (simp; omega) | (simp; done)))))).mono ?_
    rintro e w1 ⟨rfl, hb1⟩
    go_wp2
    go_ret
    exact ⟨by rw [← Hq.out]; rfl, by (repeat' (first | (with_reducible exact Below.refl _ _) | (with_reducible assumption) | (with_reducible refine Below.alloc ?_ ?_ _) | (with_reducible refine Below.drew ?_) | (with_reducible refine below_drewN ?_ _) | (with_reducible refine Below.setCell ?_ ?_ _) | (with_reducible refine Below.trans ?_ (Below.mono (by assumption) ?_)) | (first | omega | (simp only [World.size_alloc, World.size_setCell, World.size_drew]; omega) | (simp; omega) | (simp; done))))⟩
  · go_enter Try.func134, Try.ntmps134
    go_wp2_with fail
    refine (k1 _ (by (repeat' (first | (with_reducible exact Below.refl _ _) | (with_reducible assumption) | (with_reducible refine Below.alloc ?_ ?_ _) | (with_reducible refine Below.drew ?_) | (with_reducible refine below_drewN ?_ _) | (with_reducible refine Below.setCell ?_ ?_ _) | (with_reducible refine Below.trans ?_ (Below.mono (by assumption) ?_)) | (first | omega | (simp only [World.size_alloc, World.size_setCell, World.size_drew]; omega) | (simp; omega) | (simp; done)))))).mono ?_
    rintro e w1 ⟨rfl, hb1⟩
    obtain ⟨hf, _⟩ := bcell hb1
    have e0 := (hf g0 0 h0).trans hc0
    have e1 := (hf g0 1 h0).trans hc1
    have e2 := (hf g1 0 h1).trans hc2
    have e3 := (hf g2 0 h2).trans hc3
    have z1 := hb1.size
    clear hf
    go_wp2_with fail
    refine (k2 _ (by (repeat' (first | (with_reducible exact Below.refl _ _) | (with_reducible assumption) | (with_reducible refine Below.alloc ?_ ?_ _) | (with_reducible refine Below.drew ?_) | (with_reducible refine below_drewN ?_ _) | (with_reducible refine Below.setCell ?_ ?_ _) | (with_reducible refine Below.trans ?_ (Below.mono (by assumption) ?_)) | (first | omega | (simp only [World.size_alloc, World.size_setCell, World.size_drew]; omega) | (simp; omega) | (simp; done)))))).mono ?_
    rintro e w2 ⟨rfl, hb2⟩
    go_wp2
    go_ret
    exact ⟨by rw [← Hq.out]; rfl, by (repeat' (first | (with_reducible exact Below.refl _ _) | (with_reducible assumption) | (with_reducible refine Below.alloc ?_ ?_ _) | (with_reducible refine Below.drew ?_) | (with_reducible refine below_drewN ?_ _) | (with_reducible refine Below.setCell ?_ ?_ _) | (with_reducible refine Below.trans ?_ (Below.mono (by assumption) ?_)) | (first | omega | (simp only [World.size_alloc, World.size_setCell, World.size_drew]; omega) | (simp; omega) | (simp; done))))⟩

theorem closeB_idx (es : List (Int × Int)) (i j : Nat) : (idx es.length).any (fun h => midB es i j h.toNat) = (List.range es.length).any (midB es i j) := by
  simp [idx, List.any_map, Function.comp_def]
theorem mem_idx {n : Nat} {a : Int} (h : a ∈ idx n) : ∃ k : Nat, a = k ∧ k < n := by
  simp only [idx, List.mem_map, List.mem_range] at h
  obtain ⟨k, hk, rfl⟩ := h
  exact ⟨k, rfl, hk⟩

set_option maxHeartbeats 1000000 in
theorem isClose_b (n : Int) (A : Option Addr) (c : Nat) (es : List (Int × Int)) (i j : Nat) (w : World) (q : Bool) (hq : Hid (closeB es i j = q)) (hi : i < es.length) (hj : j < es.length) (hl : es.length ≤ 1048576) (hr : RdE w A es) :
    Calls Try.prog 121 #[.agg #[.int .i64 n, .slice A es.length c], .int .i64 i, .int .i64 j] w fun e w' => e = .returned (.bool q) ∧ Below w.heap.size w w' := by
  have hmf : ∀ (fn : Fn) (first cap : Array Value) (w : World), (Instr.makeFunc fn first cap).run Try.prog w = .ok (.func fn first cap) w := fun _ _ _ _ => rfl
  obtain ⟨q1, h1⟩ : ∃ q1, Hid (nearB (es.getD i (0, 0)) (es.getD j (0, 0)) = q1) := ⟨_, rfl⟩
  obtain ⟨q2, h2⟩ : ∃ q2, Hid ((idx es.length).any (fun h => midB es i j h.toNat) = q2) := ⟨_, rfl⟩
  have Hq : Hid ((q1 || q2) = q) := by show _ = _; rw [← hq.out, ← h1.out, ← h2.out, closeB_idx]; rfl
  have k1 := fun W (hW : Below w.heap.size w W) => isNear_b n A c es i j W q1 h1 hi hj hl (hr.below hW)
  have ka := fun W => allEdges_own n A es.length c W hl
  have kc := fun (A' : Option Addr) (c' : Nat) (W : World) (hW : Below w.heap.size w W) (hlt : w.heap.size + 2 < W.heap.size) (hc0 : W.cell? ⟨w.heap.size, 0, none⟩ = some (.int .i64 n)) (hc1 : W.cell? ⟨w.heap.size, 1, none⟩ = some (.slice A es.length c)) (hc2 : W.cell? ⟨w.heap.size + 1, 0, none⟩ = some (.int .i64 i)) (hc3 : W.cell? ⟨w.heap.size + 2, 0, none⟩ = some (.int .i64 j)) (hx : RdI W A' (idx es.length)) =>
    containsX_any A' c' (idx es.length) es.length 134 #[.pointer (some ⟨w.heap.size, 0, none⟩), .pointer (some ⟨w.heap.size + 1, 0, none⟩), .pointer (some ⟨w.heap.size + 2, 0, none⟩)] (fun h => midB es i j h.toNat) W q2 (idx_len _) h2 hl hx ent_isClose1
      (fun W' a ha hW' => by
        obtain ⟨k, rfl, hk⟩ := mem_idx ha
        obtain ⟨hf, _⟩ := bcell hW'
        have hsz := hW'.size
        simp only [Int.toNat_natCast]
        exact isClose1_b w.heap.size (w.heap.size + 1) (w.heap.size + 2) n A c es i j k W' _ rfl hi hj hk hl ((hr.below hW).below hW') (by omega) (by omega) (by omega) ((hf _ _ (by omega)).trans hc0) ((hf _ _ (by omega)).trans hc1) ((hf _ _ (by omega)).trans hc2) ((hf _ _ (by omega)).trans hc3))
  clear hq h1 h2 hr
  generalize es.length = L at *
  cases q1
  · go_enter Try.func121, Try.ntmps121
    go_wp2_with fail
    refine (k1 _ (by (repeat' (first | (with_reducible exact Below.refl _ _) | (with_reducible assumption) | (with_reducible refine Below.alloc ?_ ?_ _) | (with_reducible refine Below.drew ?_) | (with_reducible refine below_drewN ?_ _) | (with_reducible refine Below.setCell ?_ ?_ _) | (with_reducible refine Below.trans ?_ (Below.mono (by assumption) ?_)) | (first | omega | (simp only [World.size_alloc, World.size_setCell, World.size_drew]; omega) | (simp; omega) | (simp; done)))))).mono ?_
    rintro e w1 ⟨rfl, hb1⟩
    simp only [World.size_alloc, World.size_setCell, World.size_drew] at hb1
    have X0 := ((((Blk.new w 30 #[.int .i64 n, .slice A L c]).alloc (.cells #[.int .i64 i] 2)).alloc (.cells #[.int .i64 j] 2))).below hb1 (by (first | omega | (simp only [World.size_alloc, World.size_setCell, World.size_drew]; omega) | (simp; omega) | (simp; done)))
    have X1 := ((Blk.new (w.alloc (.cells #[.int .i64 n, .slice A L c] 30)) 2 #[.int .i64 i]).alloc (.cells #[.int .i64 j] 2)).below hb1 (by (first | omega | (simp only [World.size_alloc, World.size_setCell, World.size_drew]; omega) | (simp; omega) | (simp; done)))
    have X2 := (Blk.new ((w.alloc (.cells #[.int .i64 n, .slice A L c] 30)).alloc (.cells #[.int .i64 i] 2)) 2 #[.int .i64 j]).below hb1 (by (first | omega | (simp only [World.size_alloc, World.size_setCell, World.size_drew]; omega) | (simp; omega) | (simp; done)))
    have B1 : Below w.heap.size w w1 := by (repeat' (first | (with_reducible exact Below.refl _ _) | (with_reducible assumption) | (with_reducible refine Below.alloc ?_ ?_ _) | (with_reducible refine Below.drew ?_) | (with_reducible refine below_drewN ?_ _) | (with_reducible refine Below.setCell ?_ ?_ _) | (with_reducible refine Below.trans ?_ (Below.mono (by assumption) ?_)) | (first | omega | (simp only [World.size_alloc, World.size_setCell, World.size_drew]; omega) | (simp; omega) | (simp; done))))
    simp only [World.size_alloc, World.size_setCell, World.size_drew] at X0 X1 X2
    have z1 := X2.lt
    have d0 := X0.cellAt 0 _ rfl
    have d1 := X0.cellAt 1 _ rfl
    go_wp2_with fail
    refine (ka _).mono ?_
    rintro e w2 ⟨A', c', rfl, hown, hb2⟩
    have Y0 := X0.below hb2 (by omega)
    have Y1 := X1.below hb2 (by omega)
    have Y2 := X2.below hb2 (by omega)
    have z2 := hb2.size
    clear d0 d1
    go_wp2_with fail
    refine (kc A' c' _ (by (repeat' (first | (with_reducible exact Below.refl _ _) | (with_reducible assumption) | (with_reducible refine Below.alloc ?_ ?_ _) | (with_reducible refine Below.drew ?_) | (with_reducible refine below_drewN ?_ _) | (with_reducible refine Below.setCell ?_ ?_ _) | (with_reducible refine Below.trans ?_ (Below.mono (by assumption) ?_)) | (first | omega | (simp only [World.size_alloc, World.size_setCell, World.size_drew]; omega) | (simp; omega) | (simp; done))))) (by have := Y2.lt; omega) (Y0.cellAt 0 _ rfl) (Y0.cellAt 1 _ rfl) (Y1.cellAt 0 _ rfl) (Y2.cellAt 0 _ rfl) (own_rdI hown)).mono ?_
    rintro e w3 ⟨rfl, hb3⟩
    go_wp2
    go_ret
    exact ⟨by rw [← Hq.out]; rfl, by (repeat' (first | (with_reducible exact Below.refl _ _) | (with_reducible assumption) | (with_reducible refine Below.alloc ?_ ?_ _) | (with_reducible refine Below.drew ?_) | (with_reducible refine below_drewN ?_ _) | (with_reducible refine Below.setCell ?_ ?_ _) | (with_reducible refine Below.trans ?_ (Below.mono (by assumption) ?_)) | (first | omega | (simp only [World.size_alloc, World.size_setCell, World.size_drew]; omega) | (simp; omega) | (simp; done))))⟩
  · go_enter Try.func121, Try.ntmps121
    go_wp2_with fail
    refine (k1 _ (by (repeat' (first | (with_reducible exact Below.refl _ _) | (with_reducible assumption) | (with_reducible refine Below.alloc ?_ ?_ _) | (with_reducible refine Below.drew ?_) | (with_reducible refine below_drewN ?_ _) | (with_reducible refine Below.setCell ?_ ?_ _) | (with_reducible refine Below.trans ?_ (Below.mono (by assumption) ?_)) | (first | omega | (simp only [World.size_alloc, World.size_setCell, World.size_drew]; omega) | (simp; omega) | (simp; done)))))).mono ?_
    rintro e w1 ⟨rfl, hb1⟩
    go_wp2
    go_ret
    exact ⟨by rw [← Hq.out]; rfl, by (repeat' (first | (with_reducible exact Below.refl _ _) | (with_reducible assumption) | (with_reducible refine Below.alloc ?_ ?_ _) | (with_reducible refine Below.drew ?_) | (with_reducible refine below_drewN ?_ _) | (with_reducible refine Below.setCell ?_ ?_ _) | (with_reducible refine Below.trans ?_ (Below.mono (by assumption) ?_)) | (first | omega | (simp only [World.size_alloc, World.size_setCell, World.size_drew]; omega) | (simp; omega) | (simp; done))))⟩
end Go.Proofs.Ytkpnplldnihalaa
