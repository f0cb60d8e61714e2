/-
  No cell of these rows narrows 'for every input' (looked for: loops, veiled, ifaces, maps, wideKeys, modest, calm, conditions, laid).
  DERIVED. THE GIVEN ROWS OF THIS SEAT. 11 by the template 'for every input the law returns true; each argument reads behind the call as it read before'; 0 by the template 'total and deterministic' (their statements: YtkpnplldnihalaaTotals.lean).
  GIVEN WITH THE SEED: the statements are not yours to turn. If you find one false, say at which input.
  Laid BY PROGRAM, IN A SANDBOX (cutbox-rows.mjs): the forced cells as the released guide's own fill.sh prints them over the translation 3a5b2b469242e9b4… (all of the seat's roots in one cut). By AI agents, Wed Nov 11 2026. No macro, syntax, notation, axiom, sorry.
-/
import Derived.Test.YtkpnplldnihalaaChecked
import GoSem.Claim
import GoSem.ClaimJoined
import GoSem.ClaimMapViews
import Derived.JoinedTies
import Derived.KernelRfl
namespace Go.Proofs.Ytkpnplldnihalaa
/- THE CELL 'sum', in the pinned program and in every row, IS THE sha256 OF THE DUMP (.gsa) THAT YtkpnplldnihalaaProg.lean LOADS. Nothing in Lean hashes anything: it is a label: what it is worth is what the hold of that sum in a sandbox is worth. -/
noncomputable def Try.pinned : Pinned := { name := "ytkpnplldnihalaa", sum := "3a5b2b469242e9b44f8af9384707d4d5471d6bac9eb6f2e4066901ee66067e4e", checked := Try.checked }
namespace Rows
def none {H : Type} : Left H := { results := [], args := [] }

/-- 'laws.FnExactCountTrees': WHATEVER THE INPUT: true; the input reads as it did. -/
def fnExactCountTreesSpec : ChangeSpec := { name := "fnExactCountTrees", fn := fun _ => fun
  | [d] => { results := [.lit (.bool true)], args := [d] }
  | _ => none }
def fnExactCountTreesRow : OpenClaim := { program := "ytkpnplldnihalaa", sum := "3a5b2b469242e9b44f8af9384707d4d5471d6bac9eb6f2e4066901ee66067e4e", func := "loop.example/g01329/laws.FnExactCountTrees", spec := "fnExactCountTrees", unfollowed := true, recurses := true, apart := false }
def FnExactCountTreesSaid : Prop := fnExactCountTreesRow.holds Try.pinned (OpenSpec.ofChange fnExactCountTreesSpec)

/-- ITS FALSE NEIGHBOUR: 'it returns false'. Refute it at one input. -/
def fnExactCountTreesWrong : ChangeSpec := { name := "fnExactCountTrees", fn := fun _ => fun
  | [d] => { results := [.lit (.bool false)], args := [d] }
  | _ => none }
def FnExactCountTreesWrongFalsely : Prop := fnExactCountTreesRow.holds Try.pinned (OpenSpec.ofChange fnExactCountTreesWrong)

/-- 'laws.FnExactTreesWithEdge': WHATEVER THE INPUT: true; the input reads as it did. -/
def fnExactTreesWithEdgeSpec : ChangeSpec := { name := "fnExactTreesWithEdge", fn := fun _ => fun
  | [d1, d2] => { results := [.lit (.bool true)], args := [d1, d2] }
  | _ => none }
def fnExactTreesWithEdgeRow : OpenClaim := { program := "ytkpnplldnihalaa", sum := "3a5b2b469242e9b44f8af9384707d4d5471d6bac9eb6f2e4066901ee66067e4e", func := "loop.example/g01329/laws.FnExactTreesWithEdge", spec := "fnExactTreesWithEdge", unfollowed := true, recurses := true, apart := false }
def FnExactTreesWithEdgeSaid : Prop := fnExactTreesWithEdgeRow.holds Try.pinned (OpenSpec.ofChange fnExactTreesWithEdgeSpec)

/-- ITS FALSE NEIGHBOUR: 'it returns false'. Refute it at one input. -/
def fnExactTreesWithEdgeWrong : ChangeSpec := { name := "fnExactTreesWithEdge", fn := fun _ => fun
  | [d1, d2] => { results := [.lit (.bool false)], args := [d1, d2] }
  | _ => none }
def FnExactTreesWithEdgeWrongFalsely : Prop := fnExactTreesWithEdgeRow.holds Try.pinned (OpenSpec.ofChange fnExactTreesWithEdgeWrong)

/-- 'laws.FnExactCountConnecting': WHATEVER THE INPUT: true; the input reads as it did. -/
def fnExactCountConnectingSpec : ChangeSpec := { name := "fnExactCountConnecting", fn := fun _ => fun
  | [d] => { results := [.lit (.bool true)], args := [d] }
  | _ => none }
def fnExactCountConnectingRow : OpenClaim := { program := "ytkpnplldnihalaa", sum := "3a5b2b469242e9b44f8af9384707d4d5471d6bac9eb6f2e4066901ee66067e4e", func := "loop.example/g01329/laws.FnExactCountConnecting", spec := "fnExactCountConnecting", unfollowed := true, recurses := true, apart := false }
def FnExactCountConnectingSaid : Prop := fnExactCountConnectingRow.holds Try.pinned (OpenSpec.ofChange fnExactCountConnectingSpec)

/-- ITS FALSE NEIGHBOUR: 'it returns false'. Refute it at one input. -/
def fnExactCountConnectingWrong : ChangeSpec := { name := "fnExactCountConnecting", fn := fun _ => fun
  | [d] => { results := [.lit (.bool false)], args := [d] }
  | _ => none }
def FnExactCountConnectingWrongFalsely : Prop := fnExactCountConnectingRow.holds Try.pinned (OpenSpec.ofChange fnExactCountConnectingWrong)

/-- 'laws.FnExactCountForests': WHATEVER THE INPUT: true; the input reads as it did. -/
def fnExactCountForestsSpec : ChangeSpec := { name := "fnExactCountForests", fn := fun _ => fun
  | [d] => { results := [.lit (.bool true)], args := [d] }
  | _ => none }
def fnExactCountForestsRow : OpenClaim := { program := "ytkpnplldnihalaa", sum := "3a5b2b469242e9b44f8af9384707d4d5471d6bac9eb6f2e4066901ee66067e4e", func := "loop.example/g01329/laws.FnExactCountForests", spec := "fnExactCountForests", unfollowed := true, recurses := true, apart := false }
def FnExactCountForestsSaid : Prop := fnExactCountForestsRow.holds Try.pinned (OpenSpec.ofChange fnExactCountForestsSpec)

/-- ITS FALSE NEIGHBOUR: 'it returns false'. Refute it at one input. -/
def fnExactCountForestsWrong : ChangeSpec := { name := "fnExactCountForests", fn := fun _ => fun
  | [d] => { results := [.lit (.bool false)], args := [d] }
  | _ => none }
def FnExactCountForestsWrongFalsely : Prop := fnExactCountForestsRow.holds Try.pinned (OpenSpec.ofChange fnExactCountForestsWrong)

/-- 'laws.FnExactFlowPolynomialAt': WHATEVER THE INPUT: true; the input reads as it did. -/
def fnExactFlowPolynomialAtSpec : ChangeSpec := { name := "fnExactFlowPolynomialAt", fn := fun _ => fun
  | [d1, d2] => { results := [.lit (.bool true)], args := [d1, d2] }
  | _ => none }
def fnExactFlowPolynomialAtRow : OpenClaim := { program := "ytkpnplldnihalaa", sum := "3a5b2b469242e9b44f8af9384707d4d5471d6bac9eb6f2e4066901ee66067e4e", func := "loop.example/g01329/laws.FnExactFlowPolynomialAt", spec := "fnExactFlowPolynomialAt", unfollowed := true, recurses := true, apart := false }
def FnExactFlowPolynomialAtSaid : Prop := fnExactFlowPolynomialAtRow.holds Try.pinned (OpenSpec.ofChange fnExactFlowPolynomialAtSpec)

/-- ITS FALSE NEIGHBOUR: 'it returns false'. Refute it at one input. -/
def fnExactFlowPolynomialAtWrong : ChangeSpec := { name := "fnExactFlowPolynomialAt", fn := fun _ => fun
  | [d1, d2] => { results := [.lit (.bool false)], args := [d1, d2] }
  | _ => none }
def FnExactFlowPolynomialAtWrongFalsely : Prop := fnExactFlowPolynomialAtRow.holds Try.pinned (OpenSpec.ofChange fnExactFlowPolynomialAtWrong)

/-- 'laws.FnExactFlowPolynomial': WHATEVER THE INPUT: true; the input reads as it did. -/
def fnExactFlowPolynomialSpec : ChangeSpec := { name := "fnExactFlowPolynomial", fn := fun _ => fun
  | [d] => { results := [.lit (.bool true)], args := [d] }
  | _ => none }
def fnExactFlowPolynomialRow : OpenClaim := { program := "ytkpnplldnihalaa", sum := "3a5b2b469242e9b44f8af9384707d4d5471d6bac9eb6f2e4066901ee66067e4e", func := "loop.example/g01329/laws.FnExactFlowPolynomial", spec := "fnExactFlowPolynomial", unfollowed := true, recurses := true, apart := false }
def FnExactFlowPolynomialSaid : Prop := fnExactFlowPolynomialRow.holds Try.pinned (OpenSpec.ofChange fnExactFlowPolynomialSpec)

/-- ITS FALSE NEIGHBOUR: 'it returns false'. Refute it at one input. -/
def fnExactFlowPolynomialWrong : ChangeSpec := { name := "fnExactFlowPolynomial", fn := fun _ => fun
  | [d] => { results := [.lit (.bool false)], args := [d] }
  | _ => none }
def FnExactFlowPolynomialWrongFalsely : Prop := fnExactFlowPolynomialRow.holds Try.pinned (OpenSpec.ofChange fnExactFlowPolynomialWrong)

/-- 'laws.FnExactIsEvenSet': WHATEVER THE INPUT: true; the input reads as it did. -/
def fnExactIsEvenSetSpec : ChangeSpec := { name := "fnExactIsEvenSet", fn := fun _ => fun
  | [d1, d2] => { results := [.lit (.bool true)], args := [d1, d2] }
  | _ => none }
def fnExactIsEvenSetRow : OpenClaim := { program := "ytkpnplldnihalaa", sum := "3a5b2b469242e9b44f8af9384707d4d5471d6bac9eb6f2e4066901ee66067e4e", func := "loop.example/g01329/laws.FnExactIsEvenSet", spec := "fnExactIsEvenSet", unfollowed := true, recurses := true, apart := false }
def FnExactIsEvenSetSaid : Prop := fnExactIsEvenSetRow.holds Try.pinned (OpenSpec.ofChange fnExactIsEvenSetSpec)

/-- ITS FALSE NEIGHBOUR: 'it returns false'. Refute it at one input. -/
def fnExactIsEvenSetWrong : ChangeSpec := { name := "fnExactIsEvenSet", fn := fun _ => fun
  | [d1, d2] => { results := [.lit (.bool false)], args := [d1, d2] }
  | _ => none }
def FnExactIsEvenSetWrongFalsely : Prop := fnExactIsEvenSetRow.holds Try.pinned (OpenSpec.ofChange fnExactIsEvenSetWrong)

/-- 'laws.FnExactIsTotal': WHATEVER THE INPUT: true; the input reads as it did. -/
def fnExactIsTotalSpec : ChangeSpec := { name := "fnExactIsTotal", fn := fun _ => fun
  | [d1, d2, d3] => { results := [.lit (.bool true)], args := [d1, d2, d3] }
  | _ => none }
def fnExactIsTotalRow : OpenClaim := { program := "ytkpnplldnihalaa", sum := "3a5b2b469242e9b44f8af9384707d4d5471d6bac9eb6f2e4066901ee66067e4e", func := "loop.example/g01329/laws.FnExactIsTotal", spec := "fnExactIsTotal", unfollowed := true, recurses := true, apart := false }
def FnExactIsTotalSaid : Prop := fnExactIsTotalRow.holds Try.pinned (OpenSpec.ofChange fnExactIsTotalSpec)

/-- ITS FALSE NEIGHBOUR: 'it returns false'. Refute it at one input. -/
def fnExactIsTotalWrong : ChangeSpec := { name := "fnExactIsTotal", fn := fun _ => fun
  | [d1, d2, d3] => { results := [.lit (.bool false)], args := [d1, d2, d3] }
  | _ => none }
def FnExactIsTotalWrongFalsely : Prop := fnExactIsTotalRow.holds Try.pinned (OpenSpec.ofChange fnExactIsTotalWrong)

/-- 'laws.FnExactCircularOf': WHATEVER THE INPUT: true; the input reads as it did. -/
def fnExactCircularOfSpec : ChangeSpec := { name := "fnExactCircularOf", fn := fun _ => fun
  | [d1, d2, d3] => { results := [.lit (.bool true)], args := [d1, d2, d3] }
  | _ => none }
def fnExactCircularOfRow : OpenClaim := { program := "ytkpnplldnihalaa", sum := "3a5b2b469242e9b44f8af9384707d4d5471d6bac9eb6f2e4066901ee66067e4e", func := "loop.example/g01329/laws.FnExactCircularOf", spec := "fnExactCircularOf", unfollowed := true, recurses := true, apart := false }
def FnExactCircularOfSaid : Prop := fnExactCircularOfRow.holds Try.pinned (OpenSpec.ofChange fnExactCircularOfSpec)

/-- ITS FALSE NEIGHBOUR: 'it returns false'. Refute it at one input. -/
def fnExactCircularOfWrong : ChangeSpec := { name := "fnExactCircularOf", fn := fun _ => fun
  | [d1, d2, d3] => { results := [.lit (.bool false)], args := [d1, d2, d3] }
  | _ => none }
def FnExactCircularOfWrongFalsely : Prop := fnExactCircularOfRow.holds Try.pinned (OpenSpec.ofChange fnExactCircularOfWrong)

/-- 'laws.FnExactStrongNumber': WHATEVER THE INPUT: true; the input reads as it did. -/
def fnExactStrongNumberSpec : ChangeSpec := { name := "fnExactStrongNumber", fn := fun _ => fun
  | [d] => { results := [.lit (.bool true)], args := [d] }
  | _ => none }
def fnExactStrongNumberRow : OpenClaim := { program := "ytkpnplldnihalaa", sum := "3a5b2b469242e9b44f8af9384707d4d5471d6bac9eb6f2e4066901ee66067e4e", func := "loop.example/g01329/laws.FnExactStrongNumber", spec := "fnExactStrongNumber", unfollowed := true, recurses := true, apart := false }
def FnExactStrongNumberSaid : Prop := fnExactStrongNumberRow.holds Try.pinned (OpenSpec.ofChange fnExactStrongNumberSpec)

/-- ITS FALSE NEIGHBOUR: 'it returns false'. Refute it at one input. -/
def fnExactStrongNumberWrong : ChangeSpec := { name := "fnExactStrongNumber", fn := fun _ => fun
  | [d] => { results := [.lit (.bool false)], args := [d] }
  | _ => none }
def FnExactStrongNumberWrongFalsely : Prop := fnExactStrongNumberRow.holds Try.pinned (OpenSpec.ofChange fnExactStrongNumberWrong)

/-- 'laws.FnExactTotalNumber': WHATEVER THE INPUT: true; the input reads as it did. -/
def fnExactTotalNumberSpec : ChangeSpec := { name := "fnExactTotalNumber", fn := fun _ => fun
  | [d] => { results := [.lit (.bool true)], args := [d] }
  | _ => none }
def fnExactTotalNumberRow : OpenClaim := { program := "ytkpnplldnihalaa", sum := "3a5b2b469242e9b44f8af9384707d4d5471d6bac9eb6f2e4066901ee66067e4e", func := "loop.example/g01329/laws.FnExactTotalNumber", spec := "fnExactTotalNumber", unfollowed := true, recurses := true, apart := false }
def FnExactTotalNumberSaid : Prop := fnExactTotalNumberRow.holds Try.pinned (OpenSpec.ofChange fnExactTotalNumberSpec)

/-- ITS FALSE NEIGHBOUR: 'it returns false'. Refute it at one input. -/
def fnExactTotalNumberWrong : ChangeSpec := { name := "fnExactTotalNumber", fn := fun _ => fun
  | [d] => { results := [.lit (.bool false)], args := [d] }
  | _ => none }
def FnExactTotalNumberWrongFalsely : Prop := fnExactTotalNumberRow.holds Try.pinned (OpenSpec.ofChange fnExactTotalNumberWrong)

/- THE SECOND FORM. 'bulk': how many values and letters a reading holds, each counted each time it is reached (what is shared counts as often as it is met; a slice's spare places count too). A statement '..UptoSaid' is the law's where the arguments, and the package variables that the reading takes, are together of bulk at most 1048576: NARROWER than '..Said'. Prove '..Said' where nothing that the law and all that it calls make is longer than what came in: it says more and counts as full. Else prove '..UptoSaid'. A law counts once. -/
mutual
def uptoBulk {H : Type} : DataW H → Nat
  | .lit (.string bytes) => bytes.length + 1
  | .lit _ => 1
  | .nil => 1
  | .ptr d => uptoBulk d + 1
  | .slice elems spare => uptoBulkAll elems + uptoBulkAll spare + 1
  | .agg parts => uptoBulkAll parts + 1
  | .iface _ d => uptoBulk d + 1
  | .map entries => uptoBulkEntries entries + 1
  | .held _ => 1
def uptoBulkAll {H : Type} : List (DataW H) → Nat
  | [] => 0
  | d :: r => uptoBulk d + uptoBulkAll r
def uptoBulkEntries {H : Type} : List (Lit × DataW H) → Nat
  | [] => 0
  | x :: r => uptoBulkEntry x + uptoBulkEntries r
def uptoBulkEntry {H : Type} : Lit × DataW H → Nat
  | (.string bytes, d) => bytes.length + uptoBulk d + 1
  | (_, d) => uptoBulk d + 1
 end
def uptoSmall : (H : Type) → List (DataW H) → Bool := fun _ ds => decide (uptoBulkAll ds ≤ 1048576)
def OpenSpec.upto (s : _root_.Go.ChangeSpec) : _root_.Go.OpenSpec := { _root_.Go.OpenSpec.ofChange s with cond := some uptoSmall }

/-- 'laws.FnExactCountTrees', WHERE WHAT IT READS IS OF BULK AT MOST 1048576: true; the input reads as it did. -/
def fnExactCountTreesUptoRow : OpenClaim := { program := "ytkpnplldnihalaa", sum := "3a5b2b469242e9b44f8af9384707d4d5471d6bac9eb6f2e4066901ee66067e4e", func := "loop.example/g01329/laws.FnExactCountTrees", spec := "fnExactCountTrees", unfollowed := true, recurses := true, apart := false, narrowed := true }
def FnExactCountTreesUptoSaid : Prop := fnExactCountTreesUptoRow.holds Try.pinned (OpenSpec.upto fnExactCountTreesSpec)

/-- 'laws.FnExactTreesWithEdge', WHERE WHAT IT READS IS OF BULK AT MOST 1048576: true; the input reads as it did. -/
def fnExactTreesWithEdgeUptoRow : OpenClaim := { program := "ytkpnplldnihalaa", sum := "3a5b2b469242e9b44f8af9384707d4d5471d6bac9eb6f2e4066901ee66067e4e", func := "loop.example/g01329/laws.FnExactTreesWithEdge", spec := "fnExactTreesWithEdge", unfollowed := true, recurses := true, apart := false, narrowed := true }
def FnExactTreesWithEdgeUptoSaid : Prop := fnExactTreesWithEdgeUptoRow.holds Try.pinned (OpenSpec.upto fnExactTreesWithEdgeSpec)

/-- 'laws.FnExactCountConnecting', WHERE WHAT IT READS IS OF BULK AT MOST 1048576: true; the input reads as it did. -/
def fnExactCountConnectingUptoRow : OpenClaim := { program := "ytkpnplldnihalaa", sum := "3a5b2b469242e9b44f8af9384707d4d5471d6bac9eb6f2e4066901ee66067e4e", func := "loop.example/g01329/laws.FnExactCountConnecting", spec := "fnExactCountConnecting", unfollowed := true, recurses := true, apart := false, narrowed := true }
def FnExactCountConnectingUptoSaid : Prop := fnExactCountConnectingUptoRow.holds Try.pinned (OpenSpec.upto fnExactCountConnectingSpec)

/-- 'laws.FnExactCountForests', WHERE WHAT IT READS IS OF BULK AT MOST 1048576: true; the input reads as it did. -/
def fnExactCountForestsUptoRow : OpenClaim := { program := "ytkpnplldnihalaa", sum := "3a5b2b469242e9b44f8af9384707d4d5471d6bac9eb6f2e4066901ee66067e4e", func := "loop.example/g01329/laws.FnExactCountForests", spec := "fnExactCountForests", unfollowed := true, recurses := true, apart := false, narrowed := true }
def FnExactCountForestsUptoSaid : Prop := fnExactCountForestsUptoRow.holds Try.pinned (OpenSpec.upto fnExactCountForestsSpec)

/-- 'laws.FnExactFlowPolynomialAt', WHERE WHAT IT READS IS OF BULK AT MOST 1048576: true; the input reads as it did. -/
def fnExactFlowPolynomialAtUptoRow : OpenClaim := { program := "ytkpnplldnihalaa", sum := "3a5b2b469242e9b44f8af9384707d4d5471d6bac9eb6f2e4066901ee66067e4e", func := "loop.example/g01329/laws.FnExactFlowPolynomialAt", spec := "fnExactFlowPolynomialAt", unfollowed := true, recurses := true, apart := false, narrowed := true }
def FnExactFlowPolynomialAtUptoSaid : Prop := fnExactFlowPolynomialAtUptoRow.holds Try.pinned (OpenSpec.upto fnExactFlowPolynomialAtSpec)

/-- 'laws.FnExactFlowPolynomial', WHERE WHAT IT READS IS OF BULK AT MOST 1048576: true; the input reads as it did. -/
def fnExactFlowPolynomialUptoRow : OpenClaim := { program := "ytkpnplldnihalaa", sum := "3a5b2b469242e9b44f8af9384707d4d5471d6bac9eb6f2e4066901ee66067e4e", func := "loop.example/g01329/laws.FnExactFlowPolynomial", spec := "fnExactFlowPolynomial", unfollowed := true, recurses := true, apart := false, narrowed := true }
def FnExactFlowPolynomialUptoSaid : Prop := fnExactFlowPolynomialUptoRow.holds Try.pinned (OpenSpec.upto fnExactFlowPolynomialSpec)

/-- 'laws.FnExactIsEvenSet', WHERE WHAT IT READS IS OF BULK AT MOST 1048576: true; the input reads as it did. -/
def fnExactIsEvenSetUptoRow : OpenClaim := { program := "ytkpnplldnihalaa", sum := "3a5b2b469242e9b44f8af9384707d4d5471d6bac9eb6f2e4066901ee66067e4e", func := "loop.example/g01329/laws.FnExactIsEvenSet", spec := "fnExactIsEvenSet", unfollowed := true, recurses := true, apart := false, narrowed := true }
def FnExactIsEvenSetUptoSaid : Prop := fnExactIsEvenSetUptoRow.holds Try.pinned (OpenSpec.upto fnExactIsEvenSetSpec)

/-- 'laws.FnExactIsTotal', WHERE WHAT IT READS IS OF BULK AT MOST 1048576: true; the input reads as it did. -/
def fnExactIsTotalUptoRow : OpenClaim := { program := "ytkpnplldnihalaa", sum := "3a5b2b469242e9b44f8af9384707d4d5471d6bac9eb6f2e4066901ee66067e4e", func := "loop.example/g01329/laws.FnExactIsTotal", spec := "fnExactIsTotal", unfollowed := true, recurses := true, apart := false, narrowed := true }
def FnExactIsTotalUptoSaid : Prop := fnExactIsTotalUptoRow.holds Try.pinned (OpenSpec.upto fnExactIsTotalSpec)

/-- 'laws.FnExactCircularOf', WHERE WHAT IT READS IS OF BULK AT MOST 1048576: true; the input reads as it did. -/
def fnExactCircularOfUptoRow : OpenClaim := { program := "ytkpnplldnihalaa", sum := "3a5b2b469242e9b44f8af9384707d4d5471d6bac9eb6f2e4066901ee66067e4e", func := "loop.example/g01329/laws.FnExactCircularOf", spec := "fnExactCircularOf", unfollowed := true, recurses := true, apart := false, narrowed := true }
def FnExactCircularOfUptoSaid : Prop := fnExactCircularOfUptoRow.holds Try.pinned (OpenSpec.upto fnExactCircularOfSpec)

/-- 'laws.FnExactStrongNumber', WHERE WHAT IT READS IS OF BULK AT MOST 1048576: true; the input reads as it did. -/
def fnExactStrongNumberUptoRow : OpenClaim := { program := "ytkpnplldnihalaa", sum := "3a5b2b469242e9b44f8af9384707d4d5471d6bac9eb6f2e4066901ee66067e4e", func := "loop.example/g01329/laws.FnExactStrongNumber", spec := "fnExactStrongNumber", unfollowed := true, recurses := true, apart := false, narrowed := true }
def FnExactStrongNumberUptoSaid : Prop := fnExactStrongNumberUptoRow.holds Try.pinned (OpenSpec.upto fnExactStrongNumberSpec)

/-- 'laws.FnExactTotalNumber', WHERE WHAT IT READS IS OF BULK AT MOST 1048576: true; the input reads as it did. -/
def fnExactTotalNumberUptoRow : OpenClaim := { program := "ytkpnplldnihalaa", sum := "3a5b2b469242e9b44f8af9384707d4d5471d6bac9eb6f2e4066901ee66067e4e", func := "loop.example/g01329/laws.FnExactTotalNumber", spec := "fnExactTotalNumber", unfollowed := true, recurses := true, apart := false, narrowed := true }
def FnExactTotalNumberUptoSaid : Prop := fnExactTotalNumberUptoRow.holds Try.pinned (OpenSpec.upto fnExactTotalNumberSpec)

end Rows
end Go.Proofs.Ytkpnplldnihalaa
