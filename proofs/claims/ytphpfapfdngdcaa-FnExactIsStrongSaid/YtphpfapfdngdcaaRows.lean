/-
  No cell of these rows narrows 'for every input' (looked for: loops, veiled, ifaces, maps, wideKeys, modest, calm, conditions, laid).
  DERIVED. THE GIVEN ROWS OF THIS SEAT. 6 by the template 'for every input the law returns true; each argument reads behind the call as it read before'; 0 by the template 'total and deterministic' (their statements: YtphpfapfdngdcaaTotals.lean).
  GIVEN WITH THE SEED: the statements are not yours to turn. If you find one false, say at which input.
  Laid BY PROGRAM, IN A SANDBOX (cutbox-rows.mjs): the forced cells as the released guide's own fill.sh prints them over the translation 6a2c2f5716590f32… (all of the seat's roots in one cut). By AI agents, Wed Nov 11 2026. No macro, syntax, notation, axiom, sorry.
-/
import Derived.Test.YtphpfapfdngdcaaChecked
import GoSem.Claim
import GoSem.ClaimJoined
import GoSem.ClaimMapViews
import Derived.JoinedTies
import Derived.KernelRfl
namespace Go.Proofs.Ytphpfapfdngdcaa
/- THE CELL 'sum', in the pinned program and in every row, IS THE sha256 OF THE DUMP (.gsa) THAT YtphpfapfdngdcaaProg.lean LOADS. Nothing in Lean hashes anything: it is a label: what it is worth is what the hold of that sum in a sandbox is worth. -/
noncomputable def Try.pinned : Pinned := { name := "ytphpfapfdngdcaa", sum := "6a2c2f5716590f32199350ac0b64329e0573eed97776a1f82731e55e25621677", checked := Try.checked }
namespace Rows
def none {H : Type} : Left H := { results := [], args := [] }

/-- 'laws.FnExactCountTrees': WHATEVER THE INPUT: true; the input reads as it did. -/
def fnExactCountTreesSpec : ChangeSpec := { name := "fnExactCountTrees", fn := fun _ => fun
  | [d] => { results := [.lit (.bool true)], args := [d] }
  | _ => none }
def fnExactCountTreesRow : OpenClaim := { program := "ytphpfapfdngdcaa", sum := "6a2c2f5716590f32199350ac0b64329e0573eed97776a1f82731e55e25621677", func := "loop.example/g01329/laws.FnExactCountTrees", spec := "fnExactCountTrees", unfollowed := true, recurses := true, apart := false }
def FnExactCountTreesSaid : Prop := fnExactCountTreesRow.holds Try.pinned (OpenSpec.ofChange fnExactCountTreesSpec)

/-- ITS FALSE NEIGHBOUR: 'it returns false'. Refute it at one input. -/
def fnExactCountTreesWrong : ChangeSpec := { name := "fnExactCountTrees", fn := fun _ => fun
  | [d] => { results := [.lit (.bool false)], args := [d] }
  | _ => none }
def FnExactCountTreesWrongFalsely : Prop := fnExactCountTreesRow.holds Try.pinned (OpenSpec.ofChange fnExactCountTreesWrong)

/-- 'laws.FnExactCountConnecting': WHATEVER THE INPUT: true; the input reads as it did. -/
def fnExactCountConnectingSpec : ChangeSpec := { name := "fnExactCountConnecting", fn := fun _ => fun
  | [d] => { results := [.lit (.bool true)], args := [d] }
  | _ => none }
def fnExactCountConnectingRow : OpenClaim := { program := "ytphpfapfdngdcaa", sum := "6a2c2f5716590f32199350ac0b64329e0573eed97776a1f82731e55e25621677", func := "loop.example/g01329/laws.FnExactCountConnecting", spec := "fnExactCountConnecting", unfollowed := true, recurses := true, apart := false }
def FnExactCountConnectingSaid : Prop := fnExactCountConnectingRow.holds Try.pinned (OpenSpec.ofChange fnExactCountConnectingSpec)

/-- ITS FALSE NEIGHBOUR: 'it returns false'. Refute it at one input. -/
def fnExactCountConnectingWrong : ChangeSpec := { name := "fnExactCountConnecting", fn := fun _ => fun
  | [d] => { results := [.lit (.bool false)], args := [d] }
  | _ => none }
def FnExactCountConnectingWrongFalsely : Prop := fnExactCountConnectingRow.holds Try.pinned (OpenSpec.ofChange fnExactCountConnectingWrong)

/-- 'laws.FnExactCountForests': WHATEVER THE INPUT: true; the input reads as it did. -/
def fnExactCountForestsSpec : ChangeSpec := { name := "fnExactCountForests", fn := fun _ => fun
  | [d] => { results := [.lit (.bool true)], args := [d] }
  | _ => none }
def fnExactCountForestsRow : OpenClaim := { program := "ytphpfapfdngdcaa", sum := "6a2c2f5716590f32199350ac0b64329e0573eed97776a1f82731e55e25621677", func := "loop.example/g01329/laws.FnExactCountForests", spec := "fnExactCountForests", unfollowed := true, recurses := true, apart := false }
def FnExactCountForestsSaid : Prop := fnExactCountForestsRow.holds Try.pinned (OpenSpec.ofChange fnExactCountForestsSpec)

/-- ITS FALSE NEIGHBOUR: 'it returns false'. Refute it at one input. -/
def fnExactCountForestsWrong : ChangeSpec := { name := "fnExactCountForests", fn := fun _ => fun
  | [d] => { results := [.lit (.bool false)], args := [d] }
  | _ => none }
def FnExactCountForestsWrongFalsely : Prop := fnExactCountForestsRow.holds Try.pinned (OpenSpec.ofChange fnExactCountForestsWrong)

/-- 'laws.FnExactIsEvenSet': WHATEVER THE INPUT: true; the input reads as it did. -/
def fnExactIsEvenSetSpec : ChangeSpec := { name := "fnExactIsEvenSet", fn := fun _ => fun
  | [d1, d2] => { results := [.lit (.bool true)], args := [d1, d2] }
  | _ => none }
def fnExactIsEvenSetRow : OpenClaim := { program := "ytphpfapfdngdcaa", sum := "6a2c2f5716590f32199350ac0b64329e0573eed97776a1f82731e55e25621677", func := "loop.example/g01329/laws.FnExactIsEvenSet", spec := "fnExactIsEvenSet", unfollowed := true, recurses := true, apart := false }
def FnExactIsEvenSetSaid : Prop := fnExactIsEvenSetRow.holds Try.pinned (OpenSpec.ofChange fnExactIsEvenSetSpec)

/-- ITS FALSE NEIGHBOUR: 'it returns false'. Refute it at one input. -/
def fnExactIsEvenSetWrong : ChangeSpec := { name := "fnExactIsEvenSet", fn := fun _ => fun
  | [d1, d2] => { results := [.lit (.bool false)], args := [d1, d2] }
  | _ => none }
def FnExactIsEvenSetWrongFalsely : Prop := fnExactIsEvenSetRow.holds Try.pinned (OpenSpec.ofChange fnExactIsEvenSetWrong)

/-- 'laws.FnExactIsStrong': WHATEVER THE INPUT: true; the input reads as it did. -/
def fnExactIsStrongSpec : ChangeSpec := { name := "fnExactIsStrong", fn := fun _ => fun
  | [d1, d2, d3] => { results := [.lit (.bool true)], args := [d1, d2, d3] }
  | _ => none }
def fnExactIsStrongRow : OpenClaim := { program := "ytphpfapfdngdcaa", sum := "6a2c2f5716590f32199350ac0b64329e0573eed97776a1f82731e55e25621677", func := "loop.example/g01329/laws.FnExactIsStrong", spec := "fnExactIsStrong", unfollowed := true, recurses := true, apart := false }
def FnExactIsStrongSaid : Prop := fnExactIsStrongRow.holds Try.pinned (OpenSpec.ofChange fnExactIsStrongSpec)

/-- ITS FALSE NEIGHBOUR: 'it returns false'. Refute it at one input. -/
def fnExactIsStrongWrong : ChangeSpec := { name := "fnExactIsStrong", fn := fun _ => fun
  | [d1, d2, d3] => { results := [.lit (.bool false)], args := [d1, d2, d3] }
  | _ => none }
def FnExactIsStrongWrongFalsely : Prop := fnExactIsStrongRow.holds Try.pinned (OpenSpec.ofChange fnExactIsStrongWrong)

/-- 'laws.FnExactIsTotal': WHATEVER THE INPUT: true; the input reads as it did. -/
def fnExactIsTotalSpec : ChangeSpec := { name := "fnExactIsTotal", fn := fun _ => fun
  | [d1, d2, d3] => { results := [.lit (.bool true)], args := [d1, d2, d3] }
  | _ => none }
def fnExactIsTotalRow : OpenClaim := { program := "ytphpfapfdngdcaa", sum := "6a2c2f5716590f32199350ac0b64329e0573eed97776a1f82731e55e25621677", func := "loop.example/g01329/laws.FnExactIsTotal", spec := "fnExactIsTotal", unfollowed := true, recurses := true, apart := false }
def FnExactIsTotalSaid : Prop := fnExactIsTotalRow.holds Try.pinned (OpenSpec.ofChange fnExactIsTotalSpec)

/-- ITS FALSE NEIGHBOUR: 'it returns false'. Refute it at one input. -/
def fnExactIsTotalWrong : ChangeSpec := { name := "fnExactIsTotal", fn := fun _ => fun
  | [d1, d2, d3] => { results := [.lit (.bool false)], args := [d1, d2, d3] }
  | _ => none }
def FnExactIsTotalWrongFalsely : Prop := fnExactIsTotalRow.holds Try.pinned (OpenSpec.ofChange fnExactIsTotalWrong)

/- THE SECOND FORM. 'bulk': how many values and letters a reading holds, each counted each time it is reached (what is shared counts as often as it is met; a slice's spare places count too). A statement '..UptoSaid' is the law's where the arguments, and the package variables that the reading takes, are together of bulk at most 1048576: NARROWER than '..Said'. Prove '..Said' where nothing that the law and all that it calls make is longer than what came in: it says more and counts as full. Else prove '..UptoSaid'. A law counts once. -/
mutual
def uptoBulk {H : Type} : DataW H → Nat
  | .lit (.string bytes) => bytes.length + 1
  | .lit _ => 1
  | .nil => 1
  | .ptr d => uptoBulk d + 1
  | .slice elems spare => uptoBulkAll elems + uptoBulkAll spare + 1
  | .agg parts => uptoBulkAll parts + 1
  | .iface _ d => uptoBulk d + 1
  | .map entries => uptoBulkEntries entries + 1
  | .held _ => 1
def uptoBulkAll {H : Type} : List (DataW H) → Nat
  | [] => 0
  | d :: r => uptoBulk d + uptoBulkAll r
def uptoBulkEntries {H : Type} : List (Lit × DataW H) → Nat
  | [] => 0
  | x :: r => uptoBulkEntry x + uptoBulkEntries r
def uptoBulkEntry {H : Type} : Lit × DataW H → Nat
  | (.string bytes, d) => bytes.length + uptoBulk d + 1
  | (_, d) => uptoBulk d + 1
 end
def uptoSmall : (H : Type) → List (DataW H) → Bool := fun _ ds => decide (uptoBulkAll ds ≤ 1048576)
def OpenSpec.upto (s : _root_.Go.ChangeSpec) : _root_.Go.OpenSpec := { _root_.Go.OpenSpec.ofChange s with cond := some uptoSmall }

/-- 'laws.FnExactCountTrees', WHERE WHAT IT READS IS OF BULK AT MOST 1048576: true; the input reads as it did. -/
def fnExactCountTreesUptoRow : OpenClaim := { program := "ytphpfapfdngdcaa", sum := "6a2c2f5716590f32199350ac0b64329e0573eed97776a1f82731e55e25621677", func := "loop.example/g01329/laws.FnExactCountTrees", spec := "fnExactCountTrees", unfollowed := true, recurses := true, apart := false, narrowed := true }
def FnExactCountTreesUptoSaid : Prop := fnExactCountTreesUptoRow.holds Try.pinned (OpenSpec.upto fnExactCountTreesSpec)

/-- 'laws.FnExactCountConnecting', WHERE WHAT IT READS IS OF BULK AT MOST 1048576: true; the input reads as it did. -/
def fnExactCountConnectingUptoRow : OpenClaim := { program := "ytphpfapfdngdcaa", sum := "6a2c2f5716590f32199350ac0b64329e0573eed97776a1f82731e55e25621677", func := "loop.example/g01329/laws.FnExactCountConnecting", spec := "fnExactCountConnecting", unfollowed := true, recurses := true, apart := false, narrowed := true }
def FnExactCountConnectingUptoSaid : Prop := fnExactCountConnectingUptoRow.holds Try.pinned (OpenSpec.upto fnExactCountConnectingSpec)

/-- 'laws.FnExactCountForests', WHERE WHAT IT READS IS OF BULK AT MOST 1048576: true; the input reads as it did. -/
def fnExactCountForestsUptoRow : OpenClaim := { program := "ytphpfapfdngdcaa", sum := "6a2c2f5716590f32199350ac0b64329e0573eed97776a1f82731e55e25621677", func := "loop.example/g01329/laws.FnExactCountForests", spec := "fnExactCountForests", unfollowed := true, recurses := true, apart := false, narrowed := true }
def FnExactCountForestsUptoSaid : Prop := fnExactCountForestsUptoRow.holds Try.pinned (OpenSpec.upto fnExactCountForestsSpec)

/-- 'laws.FnExactIsEvenSet', WHERE WHAT IT READS IS OF BULK AT MOST 1048576: true; the input reads as it did. -/
def fnExactIsEvenSetUptoRow : OpenClaim := { program := "ytphpfapfdngdcaa", sum := "6a2c2f5716590f32199350ac0b64329e0573eed97776a1f82731e55e25621677", func := "loop.example/g01329/laws.FnExactIsEvenSet", spec := "fnExactIsEvenSet", unfollowed := true, recurses := true, apart := false, narrowed := true }
def FnExactIsEvenSetUptoSaid : Prop := fnExactIsEvenSetUptoRow.holds Try.pinned (OpenSpec.upto fnExactIsEvenSetSpec)

/-- 'laws.FnExactIsStrong', WHERE WHAT IT READS IS OF BULK AT MOST 1048576: true; the input reads as it did. -/
def fnExactIsStrongUptoRow : OpenClaim := { program := "ytphpfapfdngdcaa", sum := "6a2c2f5716590f32199350ac0b64329e0573eed97776a1f82731e55e25621677", func := "loop.example/g01329/laws.FnExactIsStrong", spec := "fnExactIsStrong", unfollowed := true, recurses := true, apart := false, narrowed := true }
def FnExactIsStrongUptoSaid : Prop := fnExactIsStrongUptoRow.holds Try.pinned (OpenSpec.upto fnExactIsStrongSpec)

/-- 'laws.FnExactIsTotal', WHERE WHAT IT READS IS OF BULK AT MOST 1048576: true; the input reads as it did. -/
def fnExactIsTotalUptoRow : OpenClaim := { program := "ytphpfapfdngdcaa", sum := "6a2c2f5716590f32199350ac0b64329e0573eed97776a1f82731e55e25621677", func := "loop.example/g01329/laws.FnExactIsTotal", spec := "fnExactIsTotal", unfollowed := true, recurses := true, apart := false, narrowed := true }
def FnExactIsTotalUptoSaid : Prop := fnExactIsTotalUptoRow.holds Try.pinned (OpenSpec.upto fnExactIsTotalSpec)

end Rows
end Go.Proofs.Ytphpfapfdngdcaa
