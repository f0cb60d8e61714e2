/- Opening the laws' arguments (a graph, ints) and the row's last step where a law leaves a world of which 'Below' is known; no statement of the program is proved here. -/
import Derived.Test.YtigdfcigoejjjaaBase
import Derived.ProofKit
import Derived.OpenShut
import Derived.Lib.SmallJoins
import Derived.Deep.Slices
import Derived.Carry
namespace Go.Proofs.Ytigdfcigoejjjaa
open Go.RowKit Go.ChangeShapes Go.WideShapes
set_option linter.unusedSimpArgs false
set_option linter.unusedVariables false
set_option maxRecDepth 20000

section
variable {H : Type} {enc : TypeId × Value → H}

theorem trodAll_stays (hl : laidOutB Try.prog = true) {W W' : World} {sp : Nat → Bool} : ∀ {ts : List TypeId} {vs : List Value} {ds : List (DataW H)} {ps : List MemPlace},
    (∀ t ∈ ts, Try.prog.readableRec t = true ∧ t < Try.prog.types.size) → DataW.TrodAll enc Try.prog W 0 (fun _ => true) true ts vs ds ps → (∀ p ∈ ps, W.sameAt W' p) → (∀ p ∈ ps, sp p.block = true) →
    DataW.TrodAll enc Try.prog W' 0 sp true ts vs ds ps
  | [], _, _, _, _, h, _, _ => by
    obtain ⟨rfl, rfl, rfl⟩ := trodAll_nil h
    rfl
  | t :: ts, _, _, _, hr, h, hs, hp => by
    obtain ⟨v, vs1, d, ds1, a, b, rfl, rfl, rfl, h1, h2⟩ := trodAll_cons h
    exact trodAll_cons_mk (WideElems.Trod_stays hl (hr t (by simp)).1 (hr t (by simp)).2 h1 (fun p hp' => hs p (by simp [hp'])) (fun p hp' => hp p (by simp [hp'])))
      (trodAll_stays hl (fun t' ht' => hr t' (by simp [ht'])) h2 (fun p hp' => hs p (by simp [hp'])) (fun p hp' => hp p (by simp [hp'])))

set_option maxRecDepth 100000 in
/-- THE LAW's LAST STEP: it returned true and below the old heap nothing has turned. -/
theorem post_true (hl : laidOutB Try.prog = true) {f : Func} {s : ChangeSpec} {apart fresh handsOn again : Bool} {W W' : World} {args : Array Value} {ds : List (DataW H)} {before : List MemPlace} {tb : TypeId}
    (hr : f.resultTypes = #[tb]) (hb : Try.prog.underlying tb = some .bool) (hv : s.vars = [])
    (hread : ∀ t ∈ f.params.toList, Try.prog.readableRec t = true ∧ t < Try.prog.types.size)
    (hfn : (s.fn H (ds ++ [])).results = [.lit (.bool true)] ∧ (s.fn H (ds ++ [])).args = ds ∧ (s.fn H (ds ++ [])).vars = [])
    (hW : DataW.Whole enc Try.prog f.params.toList s.vars apart W args.toList ds [] before) (hk : Below W.heap.size W W') :
    s.post enc Try.prog f apart fresh handsOn again W args (.bool true) W' := by
  have hlt : ∀ p ∈ before, p.block < W.heap.size := fun p hp => hW.lt p hp
  have hok : ∀ (j : Nat) (t : TypeId) (r : Value), f.resultTypes[j]? = some t → ((Value.bool true).resultList f.resultTypes.size)[j]? = some r → Value.okWide Try.prog W' .any 0 t r :=
    ok_one (by rw [hr]) rfl (okWide_bool_mk hb _)
  have hW2 := hW
  obtain ⟨p, q, hA, hV, hpq, hfz, hnd⟩ := hW
  rw [hv] at hV
  obtain ⟨_, rfl⟩ := trodVars_none hV
  simp only [List.append_nil] at hpq
  subst hpq
  have hargs : ∀ sp : Nat → Bool, (∀ x ∈ before, sp x.block = true) → DataW.TrodAll enc Try.prog W' 0 sp true f.params.toList args.toList ds before :=
    fun sp hsp => trodAll_stays hl hread hA (fun x hx => hk.same (hlt x hx)) hsp
  have hres : ∀ (b : Nat) (sp : Nat → Bool) (hd : Bool), DataW.TrodAll enc Try.prog W' b sp hd f.resultTypes.toList ((Value.bool true).resultList f.resultTypes.size) (s.fn H (ds ++ [])).results [] := fun b sp hd => by
    rw [hfn.1, hr]
    exact trodAll_cons_mk (shut_bool hb true) trodAll_mk0
  have hvars : ∀ sp : Nat → Bool, DataW.TrodVars enc Try.prog W' sp s.vars (s.fn H (ds ++ [])).vars [] := fun sp => by rw [hv, hfn.2.2]; rfl
  have hold : ∀ x ∈ before, (fun b => decide (b < W.heap.size)) x.block = true := fun x hx => by simpa using hlt x hx
  refine ⟨ds, [], before, [], before, [], hW2, hres _ _ _, ?_, hvars _, World.keptBut_mono (fun x hx => ⟨hx, Or.inr (Or.inl hx)⟩) (hk.frame (· ∈ before)), fun _ => ?_⟩
  · rw [hfn.2.1]; exact hargs _ hold
  · refine ⟨hok, _, _, ([] ++ before) ++ [], ⟨[] ++ before, [], trodAll_append (hargs _ (fun _ _ => rfl)) (hres _ _ _), hvars _, rfl, ?_, ?_⟩, ?_⟩
    · intro b off hp
      have hin : MemPlace.cell b off ∈ before := by simpa using hp
      rw [hk.frozen (hlt _ hin)]
      exact hfz b off (by simpa using hp)
    · intro ha
      have := hnd ha
      simpa using this
    · intro x hx _
      simpa using hx

/-- A slice of pairs of ints that came in reads as edges. -/
theorem open_edges {w : World} {t e ti : TypeId} {fuel : Nat} {v : Value} {x : DataW H × List MemPlace} (ht : Try.prog.underlying t = some (.slice e)) (he : Try.prog.underlying e = some (.array 2 ti)) (hi : Try.prog.underlying ti = some (.int .i64))
    (hc1 : Try.prog.cellsOf e = 2) (hc2 : Try.prog.cellsOf ti = 1)
    (h : DataW.trod enc Try.prog w 0 (fun _ => true) true fuel t [v] = some x) :
    ∃ (A : Option Addr) (c : Nat) (es : List (Int × Int)), v = .slice A es.length c ∧ es.length ≤ c ∧ c ≤ 9223372036854775807 ∧ RdE w A es ∧ (∀ y ∈ es, (Lit.int .i64 y.1).wf = true ∧ (Lit.int .i64 y.2).wf = true) := by
  rcases Deep.open_slice ht h with ⟨hcs, hx⟩ | ⟨a, len, cap, m, n, D, Pl, hcs, hb, hl, hm, hmm, hx, hel⟩
  · simp only [List.cons.injEq, and_true] at hcs
    exact ⟨none, 0, [], hcs, Nat.le_refl _, by omega, .inl rfl, by simp⟩
  · simp only [List.cons.injEq, and_true] at hcs
    simp only [if_true] at hmm
    subst hmm
    have key : ∀ i, i < m → ∃ y : Int × Int, w.cells? 0 (a.add (i * 2)) 2 = some [.int .i64 y.1, .int .i64 y.2] ∧ (Lit.int .i64 y.1).wf = true ∧ (Lit.int .i64 y.2).wf = true := by
      intro i hi'
      obtain ⟨cs', h1, h2⟩ := hel i hi'
      obtain ⟨xs, m', _, hxx, hlen, hxl, hf⟩ := DataW.trod_array he h2
      rw [hc1] at hlen h1
      match cs', hlen with
      | [c0, c1], _ =>
        have f0 := hf 0 (by omega)
        have f1 := hf 1 (by omega)
        rw [hc2] at f0 f1
        rw [List.getElem?_eq_getElem (by omega)] at f0 f1
        obtain ⟨z0, e0, _, w0⟩ := DataW.trod_int hi f0
        obtain ⟨z1, e1, _, w1⟩ := DataW.trod_int hi f1
        simp at e0 e1
        subst e0; subst e1
        exact ⟨(z0, z1), h1, w0, w1⟩
    obtain ⟨E, hE⟩ := Deep.choose_lt key
    refine ⟨some a, m, (List.range len).map E, ?_, ?_, ?_, ?_, ?_⟩
    · simpa using hcs
    · simpa using hl
    · exact Nat.le_trans hm (by decide)
    · rcases Nat.eq_zero_or_pos len with h0 | h0
      · left; subst h0; rfl
      · right
        obtain ⟨b, off, spot⟩ := a
        have hc0 := (World.cells?_some (hE 0 (by omega)).1).2.2 0 (by omega)
        have hspot : spot = none := by simpa [Addr.add] using World.cell?_spot hc0
        subst hspot
        have hbl : b < w.heap.size := World.cells?_block (hE 0 (by omega)).1 (by omega)
        refine ⟨b, off, rfl, hbl, fun j hj => ?_⟩
        have hj' : j < len := by simpa using hj
        have hc := (World.cells?_some (hE j (by omega)).1).2.2
        have k0 := hc 0 (by omega)
        have k1 := hc 1 (by omega)
        rw [add_plain, add_plain] at k0 k1
        have hgd : ((List.range len).map E).getD j (0, 0) = E j := by simp [List.getD, hj']
        rw [hgd]
        exact ⟨by simpa using k0, by simpa using k1⟩
    · intro y hy
      simp only [List.mem_map, List.mem_range] at hy
      obtain ⟨i, hi', rfl⟩ := hy
      exact (hE i (by omega)).2

/-- A law's graph, opened. -/
theorem open_graph {w : World} {v : Value} {d : DataW H} {p : List MemPlace} {b0 : Nat} (hv : Value.okWide Try.prog w .any b0 24 v) (h : DataW.Trod enc Try.prog w 0 (fun _ => true) true 24 v d p) :
    ∃ (n : Int) (A : Option Addr) (c : Nat) (es : List (Int × Int)), v = .agg #[.int .i64 n, .slice A es.length c] ∧ (Lit.int .i64 n).wf = true ∧ es.length ≤ 9223372036854775807 ∧ RdE w A es ∧ (∀ y ∈ es, (Lit.int .i64 y.1).wf = true ∧ (Lit.int .i64 y.2).wf = true) := by
  obtain ⟨v0, v1, y0, y1, n, rfl, _, _, h0, h1⟩ := Joins.open_agg2 Try.underlying24 (by kernel_rfl) (by kernel_rfl) hv h
  obtain ⟨z, e0, _, wz⟩ := DataW.trod_int Try.underlying2 h0
  simp only [List.cons.injEq, and_true] at e0
  subst e0
  obtain ⟨A, c, es, rfl, hl, hm, hr, hw⟩ := open_edges Try.underlying22 Try.underlying82 Try.underlying2 (by kernel_rfl) (by kernel_rfl) h1
  exact ⟨z, A, c, es, rfl, wz, Nat.le_trans hl hm, hr, hw⟩
end
end Go.Proofs.Ytigdfcigoejjjaa
