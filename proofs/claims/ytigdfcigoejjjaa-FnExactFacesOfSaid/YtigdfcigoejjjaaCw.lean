/- The ways of a length: what both functions compute; the walk of impl.CountWaysOf. -/
import Derived.Test.YtigdfcigoejjjaaCd
import Derived.StillTailTactics
namespace Go.Proofs.Ytigdfcigoejjjaa
open Go.RowKit
set_option linter.unusedSimpArgs false
set_option linter.unusedVariables false

/-- The list with v added at place i, as int64 adds. -/
def addW (c : List Int) (i : Nat) (v : Int) : List Int := c.set i (wrap64 (c.getD i 0 + v))
theorem addW_len (c : List Int) (i : Nat) (v : Int) : (addW c i v).length = c.length := by simp [addW]
/-- One step further. -/
def stepW (n : Nat) (now : List Int) (es : List (Int × Int)) : List Int := es.foldl (fun c e => addW (addW c e.1.toNat (now.getD e.2.toNat 0)) e.2.toNat (now.getD e.1.toNat 0)) (List.replicate n 0)
theorem stepW_snoc (n : Nat) (now : List Int) (es : List (Int × Int)) (e : Int × Int) : stepW n now (es ++ [e]) = addW (addW (stepW n now es) e.1.toNat (now.getD e.2.toNat 0)) e.2.toNat (now.getD e.1.toNat 0) := by simp [stepW]
theorem stepW_len (n : Nat) (now : List Int) (es : List (Int × Int)) : (stepW n now es).length = n := by
  unfold stepW
  suffices h : ∀ c : List Int, (es.foldl (fun c e => addW (addW c e.1.toNat (now.getD e.2.toNat 0)) e.2.toNat (now.getD e.1.toNat 0)) c).length = c.length by rw [h]; simp
  induction es with
  | nil => intro c; rfl
  | cons e es ih => intro c; rw [List.foldl_cons, ih, addW_len, addW_len]
/-- The numbers of the ways of the length k. -/
def waysW (n : Nat) (es : List (Int × Int)) (a : Nat) : Nat → List Int
  | 0 => (List.replicate n 0).set a 1
  | k + 1 => stepW n (waysW n es a k) es
theorem waysW_len (n : Nat) (es : List (Int × Int)) (a k : Nat) : (waysW n es a k).length = n := by
  cases k
  · simp [waysW]
  · exact stepW_len _ _ _
/-- What CountWaysOf returns. -/
def cwOf (n : Int) (es : List (Int × Int)) (a b k : Int) : Int × Int :=
  if isGraphB n es then (if inB a 0 (n - 1) && (inB b 0 (n - 1) && inB k 0 12) then ((waysW n.toNat es a.toNat k.toNat).getD b.toNat 0, 0) else (0, 2)) else (0, 1)

theorem wrap64_small {n : Int} (h1 : -9223372036854775808 ≤ n) (h2 : n ≤ 9223372036854775807) : wrap64 n = n := IntWalk.wrap64_in n ⟨h1, h2⟩
theorem isGraphB_n {n : Int} {es : List (Int × Int)} (h : isGraphB n es = true) : 2 ≤ n ∧ n ≤ 20 := by
  simp only [isGraphB, Bool.and_eq_true] at h
  exact (areEdgesB_in h.1).1
theorem isGraphB_in {n : Int} {es : List (Int × Int)} (h : isGraphB n es = true) : InN n.toNat es := by
  simp only [isGraphB, Bool.and_eq_true] at h
  exact (areEdgesB_in h.1).2.2.2.1

end Go.Proofs.Ytigdfcigoejjjaa
