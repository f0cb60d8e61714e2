/-
  No cell of these rows narrows 'for every input' (looked for: loops, veiled, ifaces, maps, wideKeys, modest, calm, conditions, laid).
  DERIVED. THE GIVEN ROWS OF THIS SEAT. 6 by the template 'for every input the law returns true; each argument reads behind the call as it read before'; 0 by the template 'total and deterministic' (their statements: YtigdfcigoejjjaaTotals.lean).
  GIVEN WITH THE SEED: the statements are not yours to turn. If you find one false, say at which input.
  Laid BY PROGRAM, IN A SANDBOX (cutbox-rows.mjs): the forced cells as the released guide's own fill.sh prints them over the translation 46fad769456885cb… (all of the seat's roots in one cut). By AI agents, Wed Nov 11 2026. No macro, syntax, notation, axiom, sorry.
-/
import Derived.Test.YtigdfcigoejjjaaChecked
import GoSem.Claim
import GoSem.ClaimJoined
import GoSem.ClaimMapViews
import Derived.JoinedTies
import Derived.KernelRfl
namespace Go.Proofs.Ytigdfcigoejjjaa
/- THE CELL 'sum', in the pinned program and in every row, IS THE sha256 OF THE DUMP (.gsa) THAT YtigdfcigoejjjaaProg.lean LOADS. Nothing in Lean hashes anything: it is a label: what it is worth is what the hold of that sum in a sandbox is worth. -/
noncomputable def Try.pinned : Pinned := { name := "ytigdfcigoejjjaa", sum := "46fad769456885cb037ffd6c26196031e02e68dffb0bb77d6a17ed9571d4514e", checked := Try.checked }
namespace Rows
def none {H : Type} : Left H := { results := [], args := [] }

/-- 'laws.FnExactFacesOf': WHATEVER THE INPUT: true; the input reads as it did. -/
def fnExactFacesOfSpec : ChangeSpec := { name := "fnExactFacesOf", fn := fun _ => fun
  | [d1, d2] => { results := [.lit (.bool true)], args := [d1, d2] }
  | _ => none }
def fnExactFacesOfRow : OpenClaim := { program := "ytigdfcigoejjjaa", sum := "46fad769456885cb037ffd6c26196031e02e68dffb0bb77d6a17ed9571d4514e", func := "loop.example/g01329/laws.FnExactFacesOf", spec := "fnExactFacesOf", unfollowed := true, recurses := true, plainKeys := false, apart := false }
def FnExactFacesOfSaid : Prop := fnExactFacesOfRow.holds Try.pinned (OpenSpec.ofChange fnExactFacesOfSpec)

/-- ITS FALSE NEIGHBOUR: 'it returns false'. Refute it at one input. -/
def fnExactFacesOfWrong : ChangeSpec := { name := "fnExactFacesOf", fn := fun _ => fun
  | [d1, d2] => { results := [.lit (.bool false)], args := [d1, d2] }
  | _ => none }
def FnExactFacesOfWrongFalsely : Prop := fnExactFacesOfRow.holds Try.pinned (OpenSpec.ofChange fnExactFacesOfWrong)

/-- 'laws.FnExactGenusOfRotation': WHATEVER THE INPUT: true; the input reads as it did. -/
def fnExactGenusOfRotationSpec : ChangeSpec := { name := "fnExactGenusOfRotation", fn := fun _ => fun
  | [d1, d2] => { results := [.lit (.bool true)], args := [d1, d2] }
  | _ => none }
def fnExactGenusOfRotationRow : OpenClaim := { program := "ytigdfcigoejjjaa", sum := "46fad769456885cb037ffd6c26196031e02e68dffb0bb77d6a17ed9571d4514e", func := "loop.example/g01329/laws.FnExactGenusOfRotation", spec := "fnExactGenusOfRotation", unfollowed := true, recurses := true, plainKeys := false, apart := false }
def FnExactGenusOfRotationSaid : Prop := fnExactGenusOfRotationRow.holds Try.pinned (OpenSpec.ofChange fnExactGenusOfRotationSpec)

/-- ITS FALSE NEIGHBOUR: 'it returns false'. Refute it at one input. -/
def fnExactGenusOfRotationWrong : ChangeSpec := { name := "fnExactGenusOfRotation", fn := fun _ => fun
  | [d1, d2] => { results := [.lit (.bool false)], args := [d1, d2] }
  | _ => none }
def FnExactGenusOfRotationWrongFalsely : Prop := fnExactGenusOfRotationRow.holds Try.pinned (OpenSpec.ofChange fnExactGenusOfRotationWrong)

/-- 'laws.FnExactLeastGenus': WHATEVER THE INPUT: true; the input reads as it did. -/
def fnExactLeastGenusSpec : ChangeSpec := { name := "fnExactLeastGenus", fn := fun _ => fun
  | [d] => { results := [.lit (.bool true)], args := [d] }
  | _ => none }
def fnExactLeastGenusRow : OpenClaim := { program := "ytigdfcigoejjjaa", sum := "46fad769456885cb037ffd6c26196031e02e68dffb0bb77d6a17ed9571d4514e", func := "loop.example/g01329/laws.FnExactLeastGenus", spec := "fnExactLeastGenus", unfollowed := true, recurses := true, plainKeys := false, apart := false }
def FnExactLeastGenusSaid : Prop := fnExactLeastGenusRow.holds Try.pinned (OpenSpec.ofChange fnExactLeastGenusSpec)

/-- ITS FALSE NEIGHBOUR: 'it returns false'. Refute it at one input. -/
def fnExactLeastGenusWrong : ChangeSpec := { name := "fnExactLeastGenus", fn := fun _ => fun
  | [d] => { results := [.lit (.bool false)], args := [d] }
  | _ => none }
def FnExactLeastGenusWrongFalsely : Prop := fnExactLeastGenusRow.holds Try.pinned (OpenSpec.ofChange fnExactLeastGenusWrong)

/-- 'laws.FnExactFirstFlow': WHATEVER THE INPUT: true; the input reads as it did. -/
def fnExactFirstFlowSpec : ChangeSpec := { name := "fnExactFirstFlow", fn := fun _ => fun
  | [d1, d2] => { results := [.lit (.bool true)], args := [d1, d2] }
  | _ => none }
def fnExactFirstFlowRow : OpenClaim := { program := "ytigdfcigoejjjaa", sum := "46fad769456885cb037ffd6c26196031e02e68dffb0bb77d6a17ed9571d4514e", func := "loop.example/g01329/laws.FnExactFirstFlow", spec := "fnExactFirstFlow", unfollowed := true, recurses := true, plainKeys := false, apart := false }
def FnExactFirstFlowSaid : Prop := fnExactFirstFlowRow.holds Try.pinned (OpenSpec.ofChange fnExactFirstFlowSpec)

/-- ITS FALSE NEIGHBOUR: 'it returns false'. Refute it at one input. -/
def fnExactFirstFlowWrong : ChangeSpec := { name := "fnExactFirstFlow", fn := fun _ => fun
  | [d1, d2] => { results := [.lit (.bool false)], args := [d1, d2] }
  | _ => none }
def FnExactFirstFlowWrongFalsely : Prop := fnExactFirstFlowRow.holds Try.pinned (OpenSpec.ofChange fnExactFirstFlowWrong)

/-- 'laws.FnExactFirstWholeFlow': WHATEVER THE INPUT: true; the input reads as it did. -/
def fnExactFirstWholeFlowSpec : ChangeSpec := { name := "fnExactFirstWholeFlow", fn := fun _ => fun
  | [d1, d2] => { results := [.lit (.bool true)], args := [d1, d2] }
  | _ => none }
def fnExactFirstWholeFlowRow : OpenClaim := { program := "ytigdfcigoejjjaa", sum := "46fad769456885cb037ffd6c26196031e02e68dffb0bb77d6a17ed9571d4514e", func := "loop.example/g01329/laws.FnExactFirstWholeFlow", spec := "fnExactFirstWholeFlow", unfollowed := true, recurses := true, plainKeys := false, apart := false }
def FnExactFirstWholeFlowSaid : Prop := fnExactFirstWholeFlowRow.holds Try.pinned (OpenSpec.ofChange fnExactFirstWholeFlowSpec)

/-- ITS FALSE NEIGHBOUR: 'it returns false'. Refute it at one input. -/
def fnExactFirstWholeFlowWrong : ChangeSpec := { name := "fnExactFirstWholeFlow", fn := fun _ => fun
  | [d1, d2] => { results := [.lit (.bool false)], args := [d1, d2] }
  | _ => none }
def FnExactFirstWholeFlowWrongFalsely : Prop := fnExactFirstWholeFlowRow.holds Try.pinned (OpenSpec.ofChange fnExactFirstWholeFlowWrong)

/-- 'laws.FnExactIsSnark': WHATEVER THE INPUT: true; the input reads as it did. -/
def fnExactIsSnarkSpec : ChangeSpec := { name := "fnExactIsSnark", fn := fun _ => fun
  | [d] => { results := [.lit (.bool true)], args := [d] }
  | _ => none }
def fnExactIsSnarkRow : OpenClaim := { program := "ytigdfcigoejjjaa", sum := "46fad769456885cb037ffd6c26196031e02e68dffb0bb77d6a17ed9571d4514e", func := "loop.example/g01329/laws.FnExactIsSnark", spec := "fnExactIsSnark", unfollowed := true, recurses := true, plainKeys := false, apart := false }
def FnExactIsSnarkSaid : Prop := fnExactIsSnarkRow.holds Try.pinned (OpenSpec.ofChange fnExactIsSnarkSpec)

/-- ITS FALSE NEIGHBOUR: 'it returns false'. Refute it at one input. -/
def fnExactIsSnarkWrong : ChangeSpec := { name := "fnExactIsSnark", fn := fun _ => fun
  | [d] => { results := [.lit (.bool false)], args := [d] }
  | _ => none }
def FnExactIsSnarkWrongFalsely : Prop := fnExactIsSnarkRow.holds Try.pinned (OpenSpec.ofChange fnExactIsSnarkWrong)

/- THE SECOND FORM. 'bulk': how many values and letters a reading holds, each counted each time it is reached (what is shared counts as often as it is met; a slice's spare places count too). A statement '..UptoSaid' is the law's where the arguments, and the package variables that the reading takes, are together of bulk at most 1048576: NARROWER than '..Said'. Prove '..Said' where nothing that the law and all that it calls make is longer than what came in: it says more and counts as full. Else prove '..UptoSaid'. A law counts once. -/
mutual
def uptoBulk {H : Type} : DataW H → Nat
  | .lit (.string bytes) => bytes.length + 1
  | .lit _ => 1
  | .nil => 1
  | .ptr d => uptoBulk d + 1
  | .slice elems spare => uptoBulkAll elems + uptoBulkAll spare + 1
  | .agg parts => uptoBulkAll parts + 1
  | .iface _ d => uptoBulk d + 1
  | .map entries => uptoBulkEntries entries + 1
  | .held _ => 1
def uptoBulkAll {H : Type} : List (DataW H) → Nat
  | [] => 0
  | d :: r => uptoBulk d + uptoBulkAll r
def uptoBulkEntries {H : Type} : List (Lit × DataW H) → Nat
  | [] => 0
  | x :: r => uptoBulkEntry x + uptoBulkEntries r
def uptoBulkEntry {H : Type} : Lit × DataW H → Nat
  | (.string bytes, d) => bytes.length + uptoBulk d + 1
  | (_, d) => uptoBulk d + 1
 end
def uptoSmall : (H : Type) → List (DataW H) → Bool := fun _ ds => decide (uptoBulkAll ds ≤ 1048576)
def OpenSpec.upto (s : _root_.Go.ChangeSpec) : _root_.Go.OpenSpec := { _root_.Go.OpenSpec.ofChange s with cond := some uptoSmall }

/-- 'laws.FnExactFacesOf', WHERE WHAT IT READS IS OF BULK AT MOST 1048576: true; the input reads as it did. -/
def fnExactFacesOfUptoRow : OpenClaim := { program := "ytigdfcigoejjjaa", sum := "46fad769456885cb037ffd6c26196031e02e68dffb0bb77d6a17ed9571d4514e", func := "loop.example/g01329/laws.FnExactFacesOf", spec := "fnExactFacesOf", unfollowed := true, recurses := true, plainKeys := false, apart := false, narrowed := true }
def FnExactFacesOfUptoSaid : Prop := fnExactFacesOfUptoRow.holds Try.pinned (OpenSpec.upto fnExactFacesOfSpec)

/-- 'laws.FnExactGenusOfRotation', WHERE WHAT IT READS IS OF BULK AT MOST 1048576: true; the input reads as it did. -/
def fnExactGenusOfRotationUptoRow : OpenClaim := { program := "ytigdfcigoejjjaa", sum := "46fad769456885cb037ffd6c26196031e02e68dffb0bb77d6a17ed9571d4514e", func := "loop.example/g01329/laws.FnExactGenusOfRotation", spec := "fnExactGenusOfRotation", unfollowed := true, recurses := true, plainKeys := false, apart := false, narrowed := true }
def FnExactGenusOfRotationUptoSaid : Prop := fnExactGenusOfRotationUptoRow.holds Try.pinned (OpenSpec.upto fnExactGenusOfRotationSpec)

/-- 'laws.FnExactLeastGenus', WHERE WHAT IT READS IS OF BULK AT MOST 1048576: true; the input reads as it did. -/
def fnExactLeastGenusUptoRow : OpenClaim := { program := "ytigdfcigoejjjaa", sum := "46fad769456885cb037ffd6c26196031e02e68dffb0bb77d6a17ed9571d4514e", func := "loop.example/g01329/laws.FnExactLeastGenus", spec := "fnExactLeastGenus", unfollowed := true, recurses := true, plainKeys := false, apart := false, narrowed := true }
def FnExactLeastGenusUptoSaid : Prop := fnExactLeastGenusUptoRow.holds Try.pinned (OpenSpec.upto fnExactLeastGenusSpec)

/-- 'laws.FnExactFirstFlow', WHERE WHAT IT READS IS OF BULK AT MOST 1048576: true; the input reads as it did. -/
def fnExactFirstFlowUptoRow : OpenClaim := { program := "ytigdfcigoejjjaa", sum := "46fad769456885cb037ffd6c26196031e02e68dffb0bb77d6a17ed9571d4514e", func := "loop.example/g01329/laws.FnExactFirstFlow", spec := "fnExactFirstFlow", unfollowed := true, recurses := true, plainKeys := false, apart := false, narrowed := true }
def FnExactFirstFlowUptoSaid : Prop := fnExactFirstFlowUptoRow.holds Try.pinned (OpenSpec.upto fnExactFirstFlowSpec)

/-- 'laws.FnExactFirstWholeFlow', WHERE WHAT IT READS IS OF BULK AT MOST 1048576: true; the input reads as it did. -/
def fnExactFirstWholeFlowUptoRow : OpenClaim := { program := "ytigdfcigoejjjaa", sum := "46fad769456885cb037ffd6c26196031e02e68dffb0bb77d6a17ed9571d4514e", func := "loop.example/g01329/laws.FnExactFirstWholeFlow", spec := "fnExactFirstWholeFlow", unfollowed := true, recurses := true, plainKeys := false, apart := false, narrowed := true }
def FnExactFirstWholeFlowUptoSaid : Prop := fnExactFirstWholeFlowUptoRow.holds Try.pinned (OpenSpec.upto fnExactFirstWholeFlowSpec)

/-- 'laws.FnExactIsSnark', WHERE WHAT IT READS IS OF BULK AT MOST 1048576: true; the input reads as it did. -/
def fnExactIsSnarkUptoRow : OpenClaim := { program := "ytigdfcigoejjjaa", sum := "46fad769456885cb037ffd6c26196031e02e68dffb0bb77d6a17ed9571d4514e", func := "loop.example/g01329/laws.FnExactIsSnark", spec := "fnExactIsSnark", unfollowed := true, recurses := true, plainKeys := false, apart := false, narrowed := true }
def FnExactIsSnarkUptoSaid : Prop := fnExactIsSnarkUptoRow.holds Try.pinned (OpenSpec.upto fnExactIsSnarkSpec)

end Rows
end Go.Proofs.Ytigdfcigoejjjaa
