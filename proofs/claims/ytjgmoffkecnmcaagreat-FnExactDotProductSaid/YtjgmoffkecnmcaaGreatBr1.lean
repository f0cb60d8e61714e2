/- Bridged edges: the plain law. No statement of the program is proved here. -/
import Derived.Test.YtjgmoffkecnmcaaGreatPr1
namespace Go.Proofs.YtjgmoffkecnmcaaGreat
open Go.RowKit
set_option linter.unusedSimpArgs false
set_option linter.unusedVariables false
set_option maxRecDepth 20000

/-- What the edge x of number i becomes. -/
def br1 (sp : Bool) (n e f : Int) (i : Nat) (x : Int × Int) : List (Int × Int) :=
  if (i : Int) = e then [(x.1, n), if sp then (x.2, n) else (n, x.2)] else if (i : Int) = f then [(x.1, n + 1), if sp then (x.2, n + 1) else (n + 1, x.2)] else [x]
def brL (sp : Bool) (n e f : Int) (es : List (Int × Int)) (k : Nat) : List (Int × Int) := (n, n + 1) :: (List.range k).flatMap fun i => br1 sp n e f i (es.getD i (0, 0))
theorem brL_zero (sp : Bool) (n e f : Int) (es : List (Int × Int)) : brL sp n e f es 0 = [(n, n + 1)] := rfl
theorem brL_succ (sp : Bool) (n e f : Int) (es : List (Int × Int)) (k : Nat) : brL sp n e f es (k + 1) = brL sp n e f es k ++ br1 sp n e f k (es.getD k (0, 0)) := by simp [brL, List.range_succ]
theorem br1_len (sp : Bool) (n e f : Int) (i : Nat) (x : Int × Int) : (br1 sp n e f i x).length ≤ 2 := by
  unfold br1; split
  · simp
  · split <;> simp
theorem brL_len (sp : Bool) (n e f : Int) (es : List (Int × Int)) (k : Nat) : 0 < (brL sp n e f es k).length ∧ (brL sp n e f es k).length ≤ 1 + 2 * k := by
  induction k with
  | zero => simp [brL_zero]
  | succ k ih => rw [brL_succ, List.length_append]; have := br1_len sp n e f k (es.getD k (0, 0)); omega
theorem mmE_swap (a b : Int) : mmE (a, b) = mmE (b, a) := by simp only [mmE, Int.min_comm, Int.max_comm]
theorem br1_mm (n e f : Int) (i : Nat) (x : Int × Int) : (br1 true n e f i x).map mmE = (br1 false n e f i x).map mmE := by
  unfold br1; split
  · simp [mmE_swap n x.2]
  · split
    · simp [mmE_swap (n + 1) x.2]
    · rfl
theorem brL_mm (n e f : Int) (es : List (Int × Int)) (k : Nat) : (brL true n e f es k).map mmE = (brL false n e f es k).map mmE := by
  induction k with
  | zero => rfl
  | succ k ih => rw [brL_succ, brL_succ, List.map_append, List.map_append, ih, br1_mm]
theorem brL_made (n e f : Int) (es : List (Int × Int)) (k : Nat) : madeE (brL true n e f es k) = madeE (brL false n e f es k) := madeE_congr (by rw [brL_mm])
/-- The bridged graph and the code. -/
def bridgeV (n : Int) (es : List (Int × Int)) (e f : Int) : Int × List (Int × Int) × Int :=
  if isGraphB n es = false then (0, [], 1) else if (inB e 0 ((es.length : Int) - 1) && inB f 0 ((es.length : Int) - 1)) = false then (0, [], 2) else if e = f then (0, [], 5) else limV (n + 2) (brL false n e f es es.length)
theorem limV_len (n : Int) (es : List (Int × Int)) : (limV n es).2.1.length ≤ es.length := by
  unfold limV; split
  · simp
  · simp [madeE_len]
theorem lenBridge (n : Int) (es : List (Int × Int)) (e f : Int) (h : es.length ≤ 1048576) : (bridgeV n es e f).2.1.length ≤ 1048576 := by
  unfold bridgeV
  split
  · simp
  · rename_i hg
    split
    · simp
    · split
      · simp
      · have h1 := limV_len (n + 2) (brL false n e f es es.length)
        have h2 := (brL_len false n e f es es.length).2
        have h3 := isGraphB_len (n := n) (es := es) (by simpa using hg)
        omega
theorem own_len {w : World} {base : Nat} {e : TypeId} {v : Value} {n : Nat} {es : List (Int × Int)} (h : w.ownsRow base e 2 v n (cE es)) : n = es.length := by
  have := h.1
  rw [length_cE] at this
  omega
end Go.Proofs.YtjgmoffkecnmcaaGreat
