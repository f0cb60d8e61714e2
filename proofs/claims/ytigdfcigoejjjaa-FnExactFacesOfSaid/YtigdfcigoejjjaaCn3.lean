/- Labels by relaxing: the plain law. No statement of the program is proved here. -/
import Derived.Test.YtigdfcigoejjjaaCn2
namespace Go.Proofs.Ytigdfcigoejjjaa
open Go.RowKit
set_option linter.unusedSimpArgs false
set_option linter.unusedVariables false
set_option maxRecDepth 20000

def allP : Nat → Bool := fun _ => true
/-- Labels within the parts, not above. -/
structure Lab (es : List (Int × Int)) (N : Nat) (out : List Int) : Prop where
  len : out.length = N
  low : ∀ v, v < N → 0 ≤ out.getD v 0 ∧ out.getD v 0 ≤ v
  conn : ∀ v, v < N → Conn es allP v (out.getD v 0).toNat
def idL (N : Nat) : List Int := (List.range N).map fun (i : Nat) => (i : Int)
theorem idL_get {N v : Nat} (h : v < N) : (idL N).getD v 0 = v := by simp [idL, List.getD, h]
theorem idL_len (N : Nat) : (idL N).length = N := by simp [idL]
theorem Lab.start (es : List (Int × Int)) (N : Nat) : Lab es N (idL N) where
  len := idL_len N
  low := fun v hv => by rw [idL_get hv]; omega
  conn := fun v hv => by rw [idL_get hv, Int.toNat_natCast]; exact .refl
/-- The sum of the labels. -/
def sumL (out : List Int) : Nat := (out.map Int.toNat).sum
theorem sumL_set : ∀ {out : List Int} {v : Nat} {x : Int} (hv : v < out.length), sumL (out.set v x) + (out.getD v 0).toNat = sumL out + x.toNat := by
  intro out
  induction out with
  | nil => intro v x hv; simp at hv
  | cons y ys ih =>
    intro v x hv
    cases v with
    | zero => simp only [sumL, List.set_cons_zero, List.map_cons, List.sum_cons, List.getD_cons_zero]; omega
    | succ v =>
      have := ih (v := v) (x := x) (by simpa using hv)
      simp only [sumL, List.set_cons_succ, List.map_cons, List.sum_cons, List.getD_cons_succ] at this ⊢
      omega
/-- Both ends of an edge get the lesser label. -/
theorem Lab.relax {es : List (Int × Int)} {N : Nat} {out : List Int} (h : Lab es N out) {k x y : Nat} (hk : k < es.length) (hxy : es.getD k (0, 0) = ((x : Int), (y : Int))) (hx : x < N) (hy : y < N) (hne : out.getD x 0 ≠ out.getD y 0) {z : Int} (hz : z = min (out.getD x 0) (out.getD y 0)) :
    Lab es N ((out.set x z).set y z) ∧ sumL ((out.set x z).set y z) < sumL out := by
  have hl := h.len
  have hxl : x < out.length := by omega
  have hyl : y < out.length := by omega
  have hx0 := h.low x hx
  have hy0 := h.low y hy
  have hxny : x ≠ y := fun e => hne (by rw [e])
  have ha : Adj es allP x y := ⟨k, hk, rfl, .inl hxy⟩
  have g : ∀ v, ((out.set x z).set y z).getD v 0 = if v = y then z else if v = x then z else out.getD v 0 := fun v => by
    rw [getD_setI _ y v z (by simpa using hyl)]
    split
    · rfl
    · rw [getD_setI _ x v z hxl]
  have hconn : ∀ v, v = x ∨ v = y → Conn es allP v z.toNat := fun v hv => by
    have hz2 : z = out.getD x 0 ∨ z = out.getD y 0 := by omega
    rcases hv with rfl | rfl <;> rcases hz2 with e | e <;> rw [e]
    · exact h.conn v hx
    · exact (Conn.one ha).trans (h.conn y hy)
    · exact (Conn.one ha.symm).trans (h.conn x hx)
    · exact h.conn v hy
  refine ⟨⟨by simpa using hl, fun v hv => ?_, fun v hv => ?_⟩, ?_⟩
  · rw [g]
    split
    · omega
    · split
      · omega
      · exact h.low v hv
  · rw [g]
    split
    · next e => exact hconn v (.inr e)
    · split
      · next e => exact hconn v (.inl e)
      · exact h.conn v hv
  · have h1 := sumL_set (out := out) (v := x) (x := z) hxl
    have h2 := sumL_set (out := out.set x z) (v := y) (x := z) (by simpa using hyl)
    rw [getD_setI _ x y z hxl, if_neg (Ne.symm hxny)] at h2
    omega
/-- A vertex has its own label just when it is the least of its part. -/
theorem Lab.least {es : List (Int × Int)} {N : Nat} {out : List Int} (hin : InN N es) (h : Lab es N out) (hsame : ∀ k, k < es.length → ∀ x y : Nat, es.getD k (0, 0) = ((x : Int), (y : Int)) → out.getD x 0 = out.getD y 0) {v : Nat} (hv : v < N) : out.getD v 0 = v ↔ Least es allP v := by
  have h9 := lab_least (p := allP) (lab := fun v => (out.getD v 0).toNat) hin (fun v hv => by have := h.low v hv; omega) (fun v hv => h.conn v hv) (fun u w ha => by
    obtain ⟨k, hk, _, h3⟩ := ha
    rcases h3 with h3 | h3
    · show (out.getD u 0).toNat = (out.getD w 0).toNat; rw [hsame k hk u w h3]
    · show (out.getD u 0).toNat = (out.getD w 0).toNat; rw [hsame k hk w u h3]) hv
  have := h.low v hv
  rw [← h9]
  constructor
  · intro e; show (out.getD v 0).toNat = v; omega
  · intro e
    have e' : (out.getD v 0).toNat = v := e
    omega
end Go.Proofs.Ytigdfcigoejjjaa
