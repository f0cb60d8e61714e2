/- othersAt. No statement of the program is proved here. -/
import Derived.Test.YtjgmoffkecnmcaaGreatOt1
import Derived.Test.YtjgmoffkecnmcaaGreatSd
import Derived.Test.YtjgmoffkecnmcaaGreatAt
import Derived.Lib.SlKeysI
namespace Go.Proofs.YtjgmoffkecnmcaaGreat
open Go.RowKit Go.Shelf Go.Lib Go.Sort Go.Maps
set_option linter.unusedSimpArgs false
set_option linter.unusedVariables false
set_option maxRecDepth 20000

/-- In rising order. -/
def upI (xs : List Int) : List Int := xs.mergeSort fun x y => decide (x ≤ y)
theorem upI_len (xs : List Int) : (upI xs).length = xs.length := by simp [upI]
/-- The other ends, but one. -/
def butL (es : List (Int × Int)) (v but : Int) : List Int := (endsL es v).filter fun x => !decide (x = but)

theorem own_block {w : World} {base : Nat} {e : TypeId} {n c g : Nat} {xs : List Int} (h : w.ownsRow base e 1 (.slice (some ⟨g, 0, none⟩) n c) n (cI xs)) :
    ∃ cur, w.heap[g]? = some (.cells cur e (0, 0)) ∧ base ≤ g ∧ n ≤ c ∧ c ≤ maxLen ∧ cur.size = c * 1 ∧ cur.toList.take (n * 1) = cI xs := by
  rcases h.2 with ⟨h1, _⟩ | ⟨g', cap, cur, hv, hge, hh, h6, h7, h8, ht⟩
  · cases h1
  · injection hv with h1 h2 h3
    injection h1 with h1
    injection h1 with h1 _ _
    subst h1; subst h3
    exact ⟨cur, hh, hge, h6, h7, h8, ht⟩
theorem own_holdsI {w : World} {base : Nat} {e : TypeId} {n c g : Nat} {xs : List Int} (h : w.ownsRow base e 1 (.slice (some ⟨g, 0, none⟩) n c) n (cI xs)) : Holds (Value.int .i64) w g 0 xs.toArray := by
  obtain ⟨cur, hB, _, h6, _, h8, ht⟩ := own_block h
  have hl : (cI xs).length = n * 1 := h.1
  intro j hj
  have hj2 : j < xs.length := by simpa using hj
  have hl2 : xs.length = n * 1 := by simpa [cI] using hl
  have hBk : Blk w g e cur := hB
  refine ⟨?_, hBk.frozen _⟩
  rw [Nat.zero_add, hBk.cell]
  have h9 : cur[j]? = (cI xs)[j]? := by rw [← ht, List.getElem?_take_of_lt (by omega), Array.getElem?_toList]
  rw [h9]
  simp [cI, hj2]

theorem ent_others1 : Ent 54 := enters_of Tryz.func54 (by kernel_rfl) rfl
theorem others1_b (B : Nat) (but x : Int) (W : World) (hc : W.cell? ⟨B, 0, none⟩ = some (.int .i64 but)) :
    FnGives Tryz.prog 54 #[.pointer (some ⟨B, 0, none⟩)] #[.int .i64 x] (.bool (decide (x = but))) W := by
  show Calls Tryz.prog 54 #[.int .i64 x, .pointer (some ⟨B, 0, none⟩)] W _
  have h9 : (x == but) = decide (x = but) := by by_cases h : x = but <;> simp [h]
  generalize hq : decide (x = but) = q at *
  clear hq
  go_enter Tryz.func54, Tryz.ntmps54
  go_wp2
  all_goals (go_ret; exact ⟨by simp_all, 0, rfl⟩)
theorem take_pref (F zs : List Int) : (F ++ zs).take F.length = F := by simp
/-- DeleteFunc on a slice that the call owns. -/
theorem delI_b (B : Nat) (but : Int) {w : World} {base g n c : Nat} {xs : List Int} (h : w.ownsRow base 2 1 (.slice (some ⟨g, 0, none⟩) n c) n (cI xs)) (hn : xs.length = n) (h1 : n ≤ 1000000) (hB : B < w.heap.size) (hne : B ≠ g) (hcell : w.cell? ⟨B, 0, none⟩ = some (.int .i64 but)) :
    Calls Tryz.prog 53 #[.slice (some ⟨g, 0, none⟩) n c, .func (.func 54) #[] #[.pointer (some ⟨B, 0, none⟩)]] w fun e w' => e = .returned (.slice (some ⟨g, 0, none⟩) (xs.filter fun x => !decide (x = but)).length c) ∧
      w'.ownsRow base 2 1 (.slice (some ⟨g, 0, none⟩) (xs.filter fun x => !decide (x = but)).length c) (xs.filter fun x => !decide (x = but)).length (cI (xs.filter fun x => !decide (x = but))) ∧ Below base w w' := by
  subst hn
  obtain ⟨cur, hBk, hge, h6, h7, h8, ht⟩ := own_block h
  have hgl : g < w.heap.size := (Array.getElem?_eq_some_iff.1 hBk).1
  have hcon := AnyE.slices_DeleteFunc delInt (Value.int .i64) (fun _ => rfl) (fun x => decide (x = but)) 54 #[.pointer (some ⟨B, 0, none⟩)] ent_others1 0 Tryz.zeroValue2 g 0 c xs.toArray w
    (fun W x hb => others1_b B but x W ((hb.cell (p := ⟨B, 0, none⟩) hB).trans hcell))
    (fun n os dk x _ => others1_b B but x _ (by
      unfold sortWorld
      rw [cell?_grow _ _ _ (by show B < (putRow _ _ _ _ _).heap.size; rw [size_putRow]; exact hB), cell?_putRow_other _ _ g 0 _ _ (Or.inl hne)]
      exact hcell))
    (own_holdsI h) (by simp; omega) (by simpa using h6)
  refine hcon.mono fun e w' hh => ?_
  obtain ⟨he, q, hw⟩ := hh
  refine ⟨he, ?_⟩
  have hfl : (xs.filter fun x => !decide (x = but)).length ≤ xs.length := List.length_filter_le _ _
  have hw2 : w' = grow (putRow encZ (Sort.ahead w q) g 0 ((xs.filter fun x => !decide (x = but)) ++ List.replicate (xs.length - (xs.filter fun x => !decide (x = but)).length) 0).toArray) #[] := by
    rw [hw, grow_empty]; simp
  have hlen : ((xs.filter fun x => !decide (x = but)) ++ List.replicate (xs.length - (xs.filter fun x => !decide (x = but)).length) 0).length = xs.length := by simp; omega
  generalize (List.replicate (xs.length - (xs.filter fun x => !decide (x = but)).length) (0 : Int)) = zs at *
  generalize (xs.filter fun x => !decide (x = but)) = F at *
  have ho := ownsRow_sorted_i (n := q) (os := #[]) (ss := xs) hlen hge hBk h6 h7 h8
  have hg := grownBy_sorted_i (w := w) (g := g) (n := q) (os := #[]) (F ++ zs).toArray
  rw [← hw2] at ho hg
  refine ⟨⟨by simp [cI], .inr ?_⟩, (Below.refl base w).grown hg ?_ (fun k e => by cases e; exact hge)⟩
  · rcases ho.2 with ⟨h9, _⟩ | ⟨g', cap, cur', hv, hge', hh', h6', h7', h8', ht'⟩
    · cases h9
    · injection hv with h9 h10 h11
      injection h9 with h9
      injection h9 with h9 _ _
      subst h9; subst h11
      refine ⟨g, c, cur', rfl, hge', hh', by omega, h7', h8', ?_⟩
      have h12 := congrArg (fun L => L.take F.length) ht'
      simp only [List.take_take, Nat.mul_one] at h12
      rw [Nat.min_eq_left hfl, ← List.map_take, take_pref] at h12
      rw [Nat.mul_one]
      exact h12
  · omega
/-- Sort on a slice that the call owns. -/
theorem sortI_b {w : World} {base g n c : Nat} {xs : List Int} (h : w.ownsRow base 2 1 (.slice (some ⟨g, 0, none⟩) n c) n (cI xs)) (hn : xs.length = n) (h1 : n ≤ 1000000) :
    Calls Tryz.prog 72 #[.slice (some ⟨g, 0, none⟩) n c] w fun e w' => e = .returned (.tuple #[]) ∧
      w'.ownsRow base 2 1 (.slice (some ⟨g, 0, none⟩) n c) n (cI (upI xs)) ∧ Below base w w' := by
  subst hn
  obtain ⟨cur, hBk, hge, h6, h7, h8, ht⟩ := own_block h
  have hgl : g < w.heap.size := (Array.getElem?_eq_some_iff.1 hBk).1
  have hcon := AnyM.slices_Sort_int sortInt g 0 c xs w (own_holdsI h) hgl (by omega)
  refine hcon.mono fun e w' hh => ?_
  obtain ⟨he, q, os, hw⟩ := hh
  refine ⟨he, ?_⟩
  subst hw
  exact ⟨ownsRow_sorted_i (upI_len xs) hge hBk h6 h7 h8, (Below.refl base w).grown (grownBy_sorted_i _) (by omega) (fun k e => by cases e; exact hge)⟩
theorem sorted_b (Bs : Nat) (A : Option Addr) (cap : Nat) (zs : List Int) (w : World) (hp : 0 < zs.length) (hz : zs.length ≤ 1000000) (hB : Bs < w.heap.size) (hBs : w.cell? ⟨Bs, 0, none⟩ = some (.slice A zs.length cap)) (hr : RdI w A zs) :
    Calls Tryz.prog 51 #[.func (.func 73) #[] #[.pointer (some ⟨Bs, 0, none⟩)]] w fun e w' => ∃ g c, e = .returned (.slice (some ⟨g, 0, none⟩) zs.length c) ∧ w'.ownsRow w.heap.size 2 1 (.slice (some ⟨g, 0, none⟩) zs.length c) zs.length (cI (upI zs)) ∧ Below w.heap.size w w' := by
  have ca := collect_b Bs A cap zs w hz hB hBs hr
  have cs := Lib.hid fun (W : World) g c (h : W.ownsRow w.heap.size 2 1 (.slice (some ⟨g, 0, none⟩) zs.length c) zs.length (cI zs)) => sortI_b h rfl hz
  obtain ⟨L, HL⟩ : ∃ L, Hid (zs.length = L) := ⟨_, rfl⟩
  simp only [HL.out] at ca cs hp ⊢
  clear hBs hr hz
  go_enter Tryz.func51, Tryz.ntmps51
  go_wp2_with fail
  refine ca.mono ?_
  rintro e w1 ⟨v, rfl, hrow, hbel⟩
  obtain ⟨g, c, rfl, _, _⟩ := own_someI hrow hp
  have c9 := cs.out w1 g c hrow
  clear ca hrow
  go_wp2_with fail
  refine c9.mono ?_
  rintro e w2 ⟨rfl, hrow2, hb2⟩
  have Hrow2 := Lib.hid hrow2
  have Hb2 := Lib.hid (hbel.trans hb2)
  clear hrow2 hb2 hbel
  go_wp2
  go_ret
  exact ⟨g, c, rfl, Hrow2.out, Hb2.out⟩

set_option maxHeartbeats 4000000 in
theorem othersAt_b (n : Int) (A : Option Addr) (c : Nat) (es : List (Int × Int)) (N : Nat) (v but : Int) (w : World) (hl : es.length ≤ 1000) (hN : N ≤ 1000) (hin : InN N es) (hv : 0 ≤ v ∧ v ≤ 1000) (hp : 0 < (endsL es v).length) (hp2 : 0 < (butL es v but).length) (hr : RdE w A es) :
    Calls Tryz.prog 24 #[.agg #[.int .i64 n, .slice A es.length c], .int .i64 v, .int .i64 but] w fun e w' => ∃ g c', e = .returned (.slice (some ⟨g, 0, none⟩) (butL es v but).length c') ∧ w'.ownsRow w.heap.size 2 1 (.slice (some ⟨g, 0, none⟩) (butL es v but).length c') (butL es v but).length (cI (upI (butL es v but))) ∧ Below w.heap.size w w' := by
  have hmf : ∀ (fn : Fn) (first cap : Array Value) (w : World), (Instr.makeFunc fn first cap).run Tryz.prog w = .ok (.func fn first cap) w := fun _ _ _ _ => rfl
  have ca := Lib.hid fun W (hW : Below w.heap.size w W) => ends_own n A c es N v W (by omega) hN hin hv (hr.below hW)
  obtain ⟨X, HX⟩ : ∃ X, Hid (endsL es v = X) := ⟨_, rfl⟩
  have Hf : Hid ((X.filter fun x => !decide (x = but)) = butL es v but) := by show _ = _; rw [← HX.out]; rfl
  rw [← Hf.out] at hp2 ⊢
  have hX : X.length ≤ 1000 := by rw [← HX.out, endsL_len]; have := atL_len es v; omega
  simp only [HX.out] at ca hp
  obtain ⟨L, HL⟩ : ∃ L, Hid (X.length = L) := ⟨_, rfl⟩
  simp only [HL.out] at ca hp hX
  have hF : (X.filter fun x => !decide (x = but)).length ≤ 1000 := by have := List.length_filter_le (fun x => !decide (x = but)) X; have := HL.out; omega
  have cd := Lib.hid fun (W : World) g c (h : W.ownsRow w.heap.size 2 1 (.slice (some ⟨g, 0, none⟩) L c) L (cI X)) h1 h2 h3 => delI_b (w.heap.size + 1) but h HL.out (by omega) h1 h2 h3
  obtain ⟨F, HF⟩ : ∃ F, Hid ((X.filter fun x => !decide (x = but)) = F) := ⟨_, rfl⟩
  simp only [HF.out] at cd hp2 hF ⊢
  have cs := Lib.hid fun (W : World) Bs Q cap h1 h2 h3 => sorted_b Bs Q cap F W hp2 (by omega) h1 h2 h3
  obtain ⟨K, HK⟩ : ∃ L, Hid (F.length = L) := ⟨_, rfl⟩
  simp only [HK.out] at cd cs hp2 hF ⊢
  clear Hf HF HX hr hin
  generalize es.length = M at *
  go_enter Tryz.func24, Tryz.ntmps24
  have b2 : Below w.heap.size w ((w.alloc (.cells #[.int .i64 n, .slice A M c] 28)).alloc (.cells #[.int .i64 but] 2)) := by (repeat' (first | (with_reducible exact Below.refl _ _) | (with_reducible assumption) | (with_reducible refine Below.alloc ?_ ?_ _) | (with_reducible refine Below.drew ?_) | (with_reducible refine below_drewN ?_ _) | (with_reducible refine Below.setCell ?_ ?_ _) | (with_reducible refine Below.trans ?_ (Below.mono (by assumption) ?_)) | (first | omega | (simp only [World.size_alloc, World.size_setCell, World.size_drew]; omega) | (simp; omega) | (simp; done))))
  have c1 := ca.out _ b2
  have KB := Lib.hid (Blk.new' (n := w.heap.size + 1) (t := 2) (cs := #[.int .i64 but]) (w.alloc (.cells #[.int .i64 n, .slice A M c] 28)) (by simp))
  have zb := KB.out.lt
  clear ca
  go_wp2_with fail
  refine c1.mono ?_
  rintro e w1 ⟨A1, c1', rfl, hown1, hb1⟩
  obtain ⟨g1, c1'', hv1, hg1, hg1'⟩ := own_someI hown1 hp
  injection hv1 with hv5 _ hv6
  subst hv5; subst hv6
  have hB1 : Below w.heap.size w w1 := b2.trans (hb1.mono b2.size)
  have KB1 := KB.out.below hb1 zb
  (try simp only [World.size_alloc] at hg1)
  have c2 := cd.out w1 g1 c1' (own_mono hown1 b2.size) KB1.lt (by omega) (KB1.cellAt 0 _ rfl)
  clear c1 hown1 KB hb1
  have HB1 := Lib.hid hB1
  clear hB1 b2
  go_wp2_with fail
  refine c2.mono ?_
  rintro e w2 ⟨rfl, hown2, hb2⟩
  have HB2 := Lib.hid (HB1.out.trans hb2)
  have Hown2 := Lib.hid hown2
  clear c2 hown2 hb2 HB1
  go_wp2_with fail
  refine (vals_in _ _ _ _).mono ?_
  rintro e w3 ⟨rfl, rfl⟩
  have b3 : Below w2.heap.size w2 (w2.alloc (.cells #[.slice (some ⟨g1, 0, none⟩) K c1'] 43)) := Below.alloc (Below.refl _ _) (Nat.le_refl _) _
  have c3 := cs.out (w2.alloc (.cells #[.slice (some ⟨g1, 0, none⟩) K c1'] 43)) w2.heap.size (some ⟨g1, 0, none⟩) c1' (by simp) ((Blk.new w2 _ _).cellAt 0 _ rfl) ((own_rdI Hown2.out).below b3)
  go_wp2_with fail
  refine c3.mono ?_
  rintro e w4 ⟨g4, c4, rfl, hown4, hb4⟩
  have HB4 := Lib.hid ((HB2.out.trans (b3.mono HB2.out.size)).trans (hb4.mono (by have := HB2.out.size; simp; omega)))
  have Hown4 := Lib.hid (own_mono hown4 (show w.heap.size ≤ _ by have := HB2.out.size; simp; omega))
  clear hown4 hb4 c3 b3
  go_wp2
  go_ret
  exact ⟨g4, c4, rfl, Hown4.out, HB4.out⟩
end Go.Proofs.YtjgmoffkecnmcaaGreat
