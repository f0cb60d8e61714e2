/- Renumbered graphs: the plain law. No statement of the program is proved here. -/
import Derived.Test.YtjgmoffkecnmcaaOr1
import Derived.Test.YtjgmoffkecnmcaaGm1
import Derived.Test.YtjgmoffkecnmcaaCw
namespace Go.Proofs.Ytjgmoffkecnmcaa
open Go.RowKit
set_option linter.unusedSimpArgs false
set_option linter.unusedVariables false
set_option maxRecDepth 20000

/-- A graph's edges are in order already. -/
theorem graph_made {n : Int} {es : List (Int × Int)} (h : isGraphB n es = true) : es.map mmE = es ∧ madeE es = es := by
  simp only [isGraphB, Bool.and_eq_true] at h
  obtain ⟨_, h1, h2, _⟩ := h
  have e1 : es.map mmE = es := by
    rw [List.all_eq_true] at h1
    conv => rhs; rw [← List.map_id es]
    refine List.map_congr_left fun e he => ?_
    have := h1 e he
    simp only [decide_eq_true_eq] at this
    obtain ⟨a, b⟩ := e
    simp only [mmE, id, Prod.mk.injEq]
    dsimp only at this
    omega
  refine ⟨e1, ?_⟩
  unfold madeE
  rw [e1]
  refine (sortE_unique (List.Perm.refl _) ?_).symm
  have h3 := (sortedB_true es).1 h2
  have step : ∀ i, i + 1 < es.length → leE (es.getD i (0, 0)) (es.getD (i + 1) (0, 0)) = true := fun i hi => by
    have := h3 i hi
    unfold leE
    rw [Bool.not_eq_true', decide_eq_false_iff_not]; omega
  rw [List.pairwise_iff_getElem]
  intro i j hi hj hij
  have key : ∀ d i, i + d + 1 < es.length → leE (es.getD i (0, 0)) (es.getD (i + d + 1) (0, 0)) = true := by
    intro d
    induction d with
    | zero => intro i hi; exact step i hi
    | succ d ih => intro i hi; exact leE_trans _ _ _ (ih i (by omega)) (step (i + d + 1) (by omega))
  have := key (j - i - 1) i (by omega)
  rw [show i + (j - i - 1) + 1 = j by omega] at this
  simpa [List.getD, hi, hj] using this

/-- The edge with other numbers. -/
def renE (p : List Int) (e : Int × Int) : Int × Int := (p.getD e.1.toNat 0, p.getD e.2.toNat 0)
/-- The edge joins i and j. -/
def joinsE (i j : Int) (e : Int × Int) : Bool := (decide (e.1 = i) && decide (e.2 = j)) || (decide (e.1 = j) && decide (e.2 = i))
/-- How many edges join i and j. -/
def pairN (es : List (Int × Int)) (i j : Int) : Nat := es.countP (joinsE i j)
theorem joinsE_iff (i j : Int) (e : Int × Int) : joinsE i j e = true ↔ (e.1 = i ∧ e.2 = j) ∨ (e.1 = j ∧ e.2 = i) := by
  simp [joinsE]
theorem pairN_comm (es : List (Int × Int)) (i j : Int) : pairN es i j = pairN es j i := by
  unfold pairN
  congr 1
  funext e
  rw [Bool.eq_iff_iff, joinsE_iff, joinsE_iff]
  omega
/-- The numbers of edges between vertices are led to each other. -/
def leadsB (es hs : List (Int × Int)) (p : List Int) (N : Nat) : Bool := (List.range N).all fun v => (List.range v).all fun w => decide (pairN es (v : Int) (w : Int) = pairN hs (p.getD v 0) (p.getD w 0))
theorem leadsB_iff {es hs : List (Int × Int)} {p : List Int} {N : Nat} : leadsB es hs p N = true ↔ ∀ v, v < N → ∀ w, w < v → pairN es (v : Int) (w : Int) = pairN hs (p.getD v 0) (p.getD w 0) := by
  simp [leadsB, List.all_eq_true]
theorem graph_edge {n : Int} {es : List (Int × Int)} (h : isGraphB n es = true) {e : Int × Int} (he : e ∈ es) : 0 ≤ e.1 ∧ e.1 < e.2 ∧ e.2 < n := by
  have hin := isGraphB_in h
  have hn := isGraphB_n h
  simp only [isGraphB, Bool.and_eq_true] at h
  have h1 := h.2.1
  rw [List.all_eq_true] at h1
  have h2 := h1 e he
  simp only [decide_eq_true_eq] at h2
  obtain ⟨j, hj, rfl⟩ := List.mem_iff_getElem.1 he
  obtain ⟨a, b, hab, ha, hb⟩ := hin j hj
  have : es[j] = ((a : Int), (b : Int)) := by rw [← hab]; simp [List.getD, hj]
  rw [this] at h2 ⊢
  dsimp only at *
  omega
/-- A renumbering's images. -/
structure Ren (p : List Int) (N : Nat) : Prop where
  len : p.length = N
  inx : ∀ v, v < N → 0 ≤ p.getD v 0 ∧ p.getD v 0 < (N : Int)
  inj : ∀ v w, v < N → w < N → p.getD v 0 = p.getD w 0 → v = w
  sur : ∀ i, i < N → ∃ v, v < N ∧ p.getD v 0 = (i : Int)
theorem permB_ren {p : List Int} {N : Nat} (h : permB p N = true) : Ren p N := by
  simp only [permB, Bool.and_eq_true, decide_eq_true_eq] at h
  obtain ⟨⟨h1, h2⟩, h3⟩ := h
  have hin := inB_all h2
  have hg : ∀ v, v < N → p.getD v 0 = p[v]! ∧ v < p.length := fun v hv => ⟨by simp [List.getD, h1, hv], by omega⟩
  refine ⟨h1, fun v hv => hin _ (getD_mem (by omega)), fun v w hv hw e => ?_, fun i hi => ?_⟩
  · have hv' : v < p.length := by omega
    have hw' : w < p.length := by omega
    have e1 : p.getD v 0 = p[v] := by simp [List.getD, hv']
    have e2 : p.getD w 0 = p[w] := by simp [List.getD, hw']
    rw [e1, e2] at e
    by_cases hvw : v = w
    · exact hvw
    · rcases Nat.lt_or_gt_of_ne hvw with h | h
      · exact absurd e ((List.pairwise_iff_getElem.1 h3) v w hv' hw' h)
      · exact absurd e.symm ((List.pairwise_iff_getElem.1 h3) w v hw' hv' h)
  · have := (full_iff h1 hin).2 h3 i hi
    obtain ⟨v, hv, e⟩ := List.mem_iff_getElem.1 this
    exact ⟨v, by omega, by simp [List.getD, hv, e]⟩

/-- How often a pair comes among the renumbered edges. -/
theorem count_ren {n : Int} {es : List (Int × Int)} {p : List Int} {N : Nat} (hg : isGraphB n es = true) (hN : n = N) (hp : Ren p N) {v w : Nat} (hv : v < N) (hw : w < N) (hne : v ≠ w) :
    ((es.map (renE p)).map mmE).count (mmE (p.getD v 0, p.getD w 0)) = pairN es v w := by
  rw [List.map_map, List.count, List.countP_map]
  unfold pairN
  refine List.countP_congr fun e he => ?_
  have h1 := graph_edge hg he
  simp only [Function.comp_apply, beq_iff_eq]
  rw [joinsE_iff]
  obtain ⟨a, ha⟩ : ∃ a : Nat, e.1 = a := ⟨e.1.toNat, by omega⟩
  obtain ⟨b, hb⟩ : ∃ b : Nat, e.2 = b := ⟨e.2.toNat, by omega⟩
  unfold renE
  rw [ha, hb, Int.toNat_natCast, Int.toNat_natCast]
  have hiv := hp.inj
  have a1 : a < N := by omega
  have b1 : b < N := by omega
  simp only [mmE, Prod.mk.injEq]
  constructor
  · intro h
    by_cases c1 : p.getD a 0 = p.getD v 0
    · left
      have e1 := hiv a v a1 hv c1
      have e2 := hiv b w b1 hw (by omega)
      omega
    · right
      have e1 := hiv a w a1 hw (by omega)
      have e2 := hiv b v b1 hv (by omega)
      omega
  · rintro (⟨e1, e2⟩ | ⟨e1, e2⟩)
    · obtain rfl : a = v := by omega
      obtain rfl : b = w := by omega
      exact ⟨rfl, rfl⟩
    · obtain rfl : a = w := by omega
      obtain rfl : b = v := by omega
      omega
/-- How often a pair comes among a graph's edges. -/
theorem count_own {n : Int} {hs : List (Int × Int)} (hg : isGraphB n hs = true) {i j : Int} (hne : i ≠ j) : hs.count (mmE (i, j)) = pairN hs i j := by
  rw [List.count]
  unfold pairN
  refine List.countP_congr fun e he => ?_
  have h1 := graph_edge hg he
  rw [joinsE_iff]
  obtain ⟨a, b⟩ := e
  simp only [beq_iff_eq, mmE, Prod.mk.injEq]
  dsimp only at h1
  omega
theorem leads_iff {n : Int} {es hs : List (Int × Int)} {p : List Int} {N : Nat} (hg : isGraphB n es = true) (hh : isGraphB n hs = true) (hN : n = N) (hp : Ren p N) :
    madeE (es.map (renE p)) = hs ↔ leadsB es hs p N = true := by
  rw [leadsB_iff]
  have hs1 := graph_made hh
  have key : madeE (es.map (renE p)) = hs ↔ ((es.map (renE p)).map mmE).Perm hs := by
    constructor
    · intro h
      have h1 := sortE_perm ((es.map (renE p)).map mmE)
      unfold madeE at h
      rw [h] at h1
      exact h1.symm
    · intro h
      have h1 := madeE_congr (es := hs) (ys := es.map (renE p)) (by rw [hs1.1]; exact h)
      rw [h1, hs1.2]
  rw [key, List.perm_iff_count]
  constructor
  · intro h v hv w hw
    have hne : p.getD v 0 ≠ p.getD w 0 := fun e => by have := hp.inj v w hv (by omega) e; omega
    have := h (mmE (p.getD v 0, p.getD w 0))
    rw [count_ren hg hN hp hv (by omega) (by omega), count_own hh hne] at this
    exact this
  · intro h e
    by_cases hm : 0 ≤ e.1 ∧ e.1 < e.2 ∧ e.2 < n
    · obtain ⟨i, hi⟩ : ∃ i : Nat, e.1 = i := ⟨e.1.toNat, by omega⟩
      obtain ⟨j, hj⟩ : ∃ i : Nat, e.2 = i := ⟨e.2.toNat, by omega⟩
      obtain ⟨v, hv, ev⟩ := hp.sur i (by omega)
      obtain ⟨w, hw, ew⟩ := hp.sur j (by omega)
      have hne : v ≠ w := fun h => by subst h; omega
      have he : e = mmE (p.getD v 0, p.getD w 0) := by
        obtain ⟨a, b⟩ := e
        simp only [mmE, Prod.mk.injEq]
        dsimp only at *
        omega
      rw [he, count_ren hg hN hp hv hw hne, count_own hh (by omega)]
      rcases Nat.lt_or_gt_of_ne hne with hlt | hlt
      · rw [pairN_comm es, pairN_comm hs]; exact h w hw v hlt
      · exact h v hv w hlt
    · have z1 : hs.count e = 0 := List.count_eq_zero.2 fun he => hm (graph_edge hh he)
      have z2 : ((es.map (renE p)).map mmE).count e = 0 := List.count_eq_zero.2 fun he => by
        rw [List.map_map, List.mem_map] at he
        obtain ⟨d, hd, rfl⟩ := he
        have h1 := graph_edge hg hd
        apply hm
        obtain ⟨a, ha⟩ : ∃ a : Nat, d.1 = a := ⟨d.1.toNat, by omega⟩
        obtain ⟨b, hb⟩ : ∃ b : Nat, d.2 = b := ⟨d.2.toNat, by omega⟩
        have i1 := hp.inx a (by omega)
        have i2 := hp.inx b (by omega)
        have hne : p.getD a 0 ≠ p.getD b 0 := fun e => by have := hp.inj a b (by omega) (by omega) e; omega
        simp only [Function.comp_apply, renE, mmE, ha, hb, Int.toNat_natCast]
        omega
      rw [z1, z2]
/-- What LeadsTo answers, and the code. -/
def leadV (n : Int) (es : List (Int × Int)) (m : Int) (hs : List (Int × Int)) (p : List Int) : Bool × Int :=
  if isGraphB n es = true ∧ isGraphB m hs = true then (if n = m ∧ permB p n.toNat = true then (leadsB es hs p n.toNat, 0) else (false, 2)) else (false, 1)
end Go.Proofs.Ytjgmoffkecnmcaa
