/-
  No cell of these rows narrows 'for every input' (looked for: loops, veiled, ifaces, maps, wideKeys, modest, calm, conditions, laid).
  DERIVED. THE GIVEN ROWS OF THIS SEAT. 3 by the template 'for every input the law returns true; each argument reads behind the call as it read before'; 0 by the template 'total and deterministic' (their statements: YtkgcenmnbeloeaaTotals.lean).
  GIVEN WITH THE SEED: the statements are not yours to turn. If you find one false, say at which input.
  Laid BY PROGRAM, IN A SANDBOX (cutbox-rows.mjs): the forced cells as the released guide's own fill.sh prints them over the translation c067236f85597a1e… (all of the seat's roots in one cut). By AI agents, Wed Nov 11 2026. No macro, syntax, notation, axiom, sorry.
-/
import Derived.Test.YtkgcenmnbeloeaaChecked
import GoSem.Claim
import GoSem.ClaimJoined
import GoSem.ClaimMapViews
import Derived.JoinedTies
import Derived.KernelRfl
namespace Go.Proofs.Ytkgcenmnbeloeaa
/- THE CELL 'sum', in the pinned program and in every row, IS THE sha256 OF THE DUMP (.gsa) THAT YtkgcenmnbeloeaaProg.lean LOADS. Nothing in Lean hashes anything: it is a label: what it is worth is what the hold of that sum in a sandbox is worth. -/
noncomputable def Try.pinned : Pinned := { name := "ytkgcenmnbeloeaa", sum := "c067236f85597a1e8d9515d0151dfa907fad3d1ad2d0ed52afd659e555736411", checked := Try.checked }
namespace Rows
def none {H : Type} : Left H := { results := [], args := [] }

/-- 'laws.FnExactCountWaysOf': WHATEVER THE INPUT: true; the input reads as it did. -/
def fnExactCountWaysOfSpec : ChangeSpec := { name := "fnExactCountWaysOf", fn := fun _ => fun
  | [d1, d2, d3, d4] => { results := [.lit (.bool true)], args := [d1, d2, d3, d4] }
  | _ => none }
def fnExactCountWaysOfRow : OpenClaim := { program := "ytkgcenmnbeloeaa", sum := "c067236f85597a1e8d9515d0151dfa907fad3d1ad2d0ed52afd659e555736411", func := "loop.example/g01329/laws.FnExactCountWaysOf", spec := "fnExactCountWaysOf", unfollowed := true, recurses := true, apart := false }
def FnExactCountWaysOfSaid : Prop := fnExactCountWaysOfRow.holds Try.pinned (OpenSpec.ofChange fnExactCountWaysOfSpec)

/-- ITS FALSE NEIGHBOUR: 'it returns false'. Refute it at one input. -/
def fnExactCountWaysOfWrong : ChangeSpec := { name := "fnExactCountWaysOf", fn := fun _ => fun
  | [d1, d2, d3, d4] => { results := [.lit (.bool false)], args := [d1, d2, d3, d4] }
  | _ => none }
def FnExactCountWaysOfWrongFalsely : Prop := fnExactCountWaysOfRow.holds Try.pinned (OpenSpec.ofChange fnExactCountWaysOfWrong)

/-- 'laws.FnExactAreClose': WHATEVER THE INPUT: true; the input reads as it did. -/
def fnExactAreCloseSpec : ChangeSpec := { name := "fnExactAreClose", fn := fun _ => fun
  | [d1, d2, d3] => { results := [.lit (.bool true)], args := [d1, d2, d3] }
  | _ => none }
def fnExactAreCloseRow : OpenClaim := { program := "ytkgcenmnbeloeaa", sum := "c067236f85597a1e8d9515d0151dfa907fad3d1ad2d0ed52afd659e555736411", func := "loop.example/g01329/laws.FnExactAreClose", spec := "fnExactAreClose", unfollowed := true, recurses := true, apart := false }
def FnExactAreCloseSaid : Prop := fnExactAreCloseRow.holds Try.pinned (OpenSpec.ofChange fnExactAreCloseSpec)

/-- ITS FALSE NEIGHBOUR: 'it returns false'. Refute it at one input. -/
def fnExactAreCloseWrong : ChangeSpec := { name := "fnExactAreClose", fn := fun _ => fun
  | [d1, d2, d3] => { results := [.lit (.bool false)], args := [d1, d2, d3] }
  | _ => none }
def FnExactAreCloseWrongFalsely : Prop := fnExactAreCloseRow.holds Try.pinned (OpenSpec.ofChange fnExactAreCloseWrong)

/-- 'laws.FnExactIsCircular': WHATEVER THE INPUT: true; the input reads as it did. -/
def fnExactIsCircularSpec : ChangeSpec := { name := "fnExactIsCircular", fn := fun _ => fun
  | [d1, d2, d3, d4] => { results := [.lit (.bool true)], args := [d1, d2, d3, d4] }
  | _ => none }
def fnExactIsCircularRow : OpenClaim := { program := "ytkgcenmnbeloeaa", sum := "c067236f85597a1e8d9515d0151dfa907fad3d1ad2d0ed52afd659e555736411", func := "loop.example/g01329/laws.FnExactIsCircular", spec := "fnExactIsCircular", unfollowed := true, recurses := true, apart := false }
def FnExactIsCircularSaid : Prop := fnExactIsCircularRow.holds Try.pinned (OpenSpec.ofChange fnExactIsCircularSpec)

/-- ITS FALSE NEIGHBOUR: 'it returns false'. Refute it at one input. -/
def fnExactIsCircularWrong : ChangeSpec := { name := "fnExactIsCircular", fn := fun _ => fun
  | [d1, d2, d3, d4] => { results := [.lit (.bool false)], args := [d1, d2, d3, d4] }
  | _ => none }
def FnExactIsCircularWrongFalsely : Prop := fnExactIsCircularRow.holds Try.pinned (OpenSpec.ofChange fnExactIsCircularWrong)

/- THE SECOND FORM. 'bulk': how many values and letters a reading holds, each counted each time it is reached (what is shared counts as often as it is met; a slice's spare places count too). A statement '..UptoSaid' is the law's where the arguments, and the package variables that the reading takes, are together of bulk at most 1048576: NARROWER than '..Said'. Prove '..Said' where nothing that the law and all that it calls make is longer than what came in: it says more and counts as full. Else prove '..UptoSaid'. A law counts once. -/
mutual
def uptoBulk {H : Type} : DataW H → Nat
  | .lit (.string bytes) => bytes.length + 1
  | .lit _ => 1
  | .nil => 1
  | .ptr d => uptoBulk d + 1
  | .slice elems spare => uptoBulkAll elems + uptoBulkAll spare + 1
  | .agg parts => uptoBulkAll parts + 1
  | .iface _ d => uptoBulk d + 1
  | .map entries => uptoBulkEntries entries + 1
  | .held _ => 1
def uptoBulkAll {H : Type} : List (DataW H) → Nat
  | [] => 0
  | d :: r => uptoBulk d + uptoBulkAll r
def uptoBulkEntries {H : Type} : List (Lit × DataW H) → Nat
  | [] => 0
  | x :: r => uptoBulkEntry x + uptoBulkEntries r
def uptoBulkEntry {H : Type} : Lit × DataW H → Nat
  | (.string bytes, d) => bytes.length + uptoBulk d + 1
  | (_, d) => uptoBulk d + 1
 end
def uptoSmall : (H : Type) → List (DataW H) → Bool := fun _ ds => decide (uptoBulkAll ds ≤ 1048576)
def OpenSpec.upto (s : _root_.Go.ChangeSpec) : _root_.Go.OpenSpec := { _root_.Go.OpenSpec.ofChange s with cond := some uptoSmall }

/-- 'laws.FnExactCountWaysOf', WHERE WHAT IT READS IS OF BULK AT MOST 1048576: true; the input reads as it did. -/
def fnExactCountWaysOfUptoRow : OpenClaim := { program := "ytkgcenmnbeloeaa", sum := "c067236f85597a1e8d9515d0151dfa907fad3d1ad2d0ed52afd659e555736411", func := "loop.example/g01329/laws.FnExactCountWaysOf", spec := "fnExactCountWaysOf", unfollowed := true, recurses := true, apart := false, narrowed := true }
def FnExactCountWaysOfUptoSaid : Prop := fnExactCountWaysOfUptoRow.holds Try.pinned (OpenSpec.upto fnExactCountWaysOfSpec)

/-- 'laws.FnExactAreClose', WHERE WHAT IT READS IS OF BULK AT MOST 1048576: true; the input reads as it did. -/
def fnExactAreCloseUptoRow : OpenClaim := { program := "ytkgcenmnbeloeaa", sum := "c067236f85597a1e8d9515d0151dfa907fad3d1ad2d0ed52afd659e555736411", func := "loop.example/g01329/laws.FnExactAreClose", spec := "fnExactAreClose", unfollowed := true, recurses := true, apart := false, narrowed := true }
def FnExactAreCloseUptoSaid : Prop := fnExactAreCloseUptoRow.holds Try.pinned (OpenSpec.upto fnExactAreCloseSpec)

/-- 'laws.FnExactIsCircular', WHERE WHAT IT READS IS OF BULK AT MOST 1048576: true; the input reads as it did. -/
def fnExactIsCircularUptoRow : OpenClaim := { program := "ytkgcenmnbeloeaa", sum := "c067236f85597a1e8d9515d0151dfa907fad3d1ad2d0ed52afd659e555736411", func := "loop.example/g01329/laws.FnExactIsCircular", spec := "fnExactIsCircular", unfollowed := true, recurses := true, apart := false, narrowed := true }
def FnExactIsCircularUptoSaid : Prop := fnExactIsCircularUptoRow.holds Try.pinned (OpenSpec.upto fnExactIsCircularSpec)

end Rows
end Go.Proofs.Ytkgcenmnbeloeaa
