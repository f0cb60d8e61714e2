/-
  No cell of these rows narrows 'for every input' (looked for: loops, veiled, ifaces, maps, wideKeys, modest, calm, conditions, laid).
  DERIVED. THE GIVEN ROWS OF THIS SEAT. 7 by the template 'for every input the law returns true; each argument reads behind the call as it read before'; 0 by the template 'total and deterministic' (their statements: YtblidpodbpoaeaaTotals.lean).
  GIVEN WITH THE SEED: the statements are not yours to turn. If you find one false, say at which input.
  Laid BY PROGRAM, IN A SANDBOX (cutbox-rows.mjs): the forced cells as the released guide's own fill.sh prints them over the translation a0132d1e7524da65… (all of the seat's roots in one cut). By AI agents, Wed Nov 11 2026. No macro, syntax, notation, axiom, sorry.
-/
import Derived.Test.YtblidpodbpoaeaaChecked
import GoSem.Claim
import GoSem.ClaimJoined
import GoSem.ClaimMapViews
import Derived.JoinedTies
import Derived.KernelRfl
namespace Go.Proofs.Ytblidpodbpoaeaa
/- THE CELL 'sum', in the pinned program and in every row, IS THE sha256 OF THE DUMP (.gsa) THAT YtblidpodbpoaeaaProg.lean LOADS. Nothing in Lean hashes anything: it is a label: what it is worth is what the hold of that sum in a sandbox is worth. -/
noncomputable def Try.pinned : Pinned := { name := "ytblidpodbpoaeaa", sum := "a0132d1e7524da65a17b701919bb287c8a0dea093cec83e8ca1451c9427d5879", checked := Try.checked }
namespace Rows
def none {H : Type} : Left H := { results := [], args := [] }

/-- 'laws.FnExactFlowerGraph': WHATEVER THE INPUT: true; the input reads as it did. -/
def fnExactFlowerGraphSpec : ChangeSpec := { name := "fnExactFlowerGraph", fn := fun _ => fun
  | [d] => { results := [.lit (.bool true)], args := [d] }
  | _ => none }
def fnExactFlowerGraphRow : OpenClaim := { program := "ytblidpodbpoaeaa", sum := "a0132d1e7524da65a17b701919bb287c8a0dea093cec83e8ca1451c9427d5879", func := "loop.example/g01329/laws.FnExactFlowerGraph", spec := "fnExactFlowerGraph", unfollowed := true, recurses := true, apart := false }
def FnExactFlowerGraphSaid : Prop := fnExactFlowerGraphRow.holds Try.pinned (OpenSpec.ofChange fnExactFlowerGraphSpec)

/-- ITS FALSE NEIGHBOUR: 'it returns false'. Refute it at one input. -/
def fnExactFlowerGraphWrong : ChangeSpec := { name := "fnExactFlowerGraph", fn := fun _ => fun
  | [d] => { results := [.lit (.bool false)], args := [d] }
  | _ => none }
def FnExactFlowerGraphWrongFalsely : Prop := fnExactFlowerGraphRow.holds Try.pinned (OpenSpec.ofChange fnExactFlowerGraphWrong)

/-- 'laws.FnExactBridgeEdges': WHATEVER THE INPUT: true; the input reads as it did. -/
def fnExactBridgeEdgesSpec : ChangeSpec := { name := "fnExactBridgeEdges", fn := fun _ => fun
  | [d1, d2, d3] => { results := [.lit (.bool true)], args := [d1, d2, d3] }
  | _ => none }
def fnExactBridgeEdgesRow : OpenClaim := { program := "ytblidpodbpoaeaa", sum := "a0132d1e7524da65a17b701919bb287c8a0dea093cec83e8ca1451c9427d5879", func := "loop.example/g01329/laws.FnExactBridgeEdges", spec := "fnExactBridgeEdges", unfollowed := true, recurses := true, apart := false }
def FnExactBridgeEdgesSaid : Prop := fnExactBridgeEdgesRow.holds Try.pinned (OpenSpec.ofChange fnExactBridgeEdgesSpec)

/-- ITS FALSE NEIGHBOUR: 'it returns false'. Refute it at one input. -/
def fnExactBridgeEdgesWrong : ChangeSpec := { name := "fnExactBridgeEdges", fn := fun _ => fun
  | [d1, d2, d3] => { results := [.lit (.bool false)], args := [d1, d2, d3] }
  | _ => none }
def FnExactBridgeEdgesWrongFalsely : Prop := fnExactBridgeEdgesRow.holds Try.pinned (OpenSpec.ofChange fnExactBridgeEdgesWrong)

/-- 'laws.FnExactOpenVertex': WHATEVER THE INPUT: true; the input reads as it did. -/
def fnExactOpenVertexSpec : ChangeSpec := { name := "fnExactOpenVertex", fn := fun _ => fun
  | [d1, d2] => { results := [.lit (.bool true)], args := [d1, d2] }
  | _ => none }
def fnExactOpenVertexRow : OpenClaim := { program := "ytblidpodbpoaeaa", sum := "a0132d1e7524da65a17b701919bb287c8a0dea093cec83e8ca1451c9427d5879", func := "loop.example/g01329/laws.FnExactOpenVertex", spec := "fnExactOpenVertex", unfollowed := true, recurses := true, apart := false }
def FnExactOpenVertexSaid : Prop := fnExactOpenVertexRow.holds Try.pinned (OpenSpec.ofChange fnExactOpenVertexSpec)

/-- ITS FALSE NEIGHBOUR: 'it returns false'. Refute it at one input. -/
def fnExactOpenVertexWrong : ChangeSpec := { name := "fnExactOpenVertex", fn := fun _ => fun
  | [d1, d2] => { results := [.lit (.bool false)], args := [d1, d2] }
  | _ => none }
def FnExactOpenVertexWrongFalsely : Prop := fnExactOpenVertexRow.holds Try.pinned (OpenSpec.ofChange fnExactOpenVertexWrong)

/-- 'laws.FnExactStarProduct': WHATEVER THE INPUT: true; the input reads as it did. -/
def fnExactStarProductSpec : ChangeSpec := { name := "fnExactStarProduct", fn := fun _ => fun
  | [d1, d2, d3, d4] => { results := [.lit (.bool true)], args := [d1, d2, d3, d4] }
  | _ => none }
def fnExactStarProductRow : OpenClaim := { program := "ytblidpodbpoaeaa", sum := "a0132d1e7524da65a17b701919bb287c8a0dea093cec83e8ca1451c9427d5879", func := "loop.example/g01329/laws.FnExactStarProduct", spec := "fnExactStarProduct", unfollowed := true, recurses := true, apart := false }
def FnExactStarProductSaid : Prop := fnExactStarProductRow.holds Try.pinned (OpenSpec.ofChange fnExactStarProductSpec)

/-- ITS FALSE NEIGHBOUR: 'it returns false'. Refute it at one input. -/
def fnExactStarProductWrong : ChangeSpec := { name := "fnExactStarProduct", fn := fun _ => fun
  | [d1, d2, d3, d4] => { results := [.lit (.bool false)], args := [d1, d2, d3, d4] }
  | _ => none }
def FnExactStarProductWrongFalsely : Prop := fnExactStarProductRow.holds Try.pinned (OpenSpec.ofChange fnExactStarProductWrong)

/-- 'laws.FnExactShrinkTriangle': WHATEVER THE INPUT: true; the input reads as it did. -/
def fnExactShrinkTriangleSpec : ChangeSpec := { name := "fnExactShrinkTriangle", fn := fun _ => fun
  | [d1, d2, d3, d4] => { results := [.lit (.bool true)], args := [d1, d2, d3, d4] }
  | _ => none }
def fnExactShrinkTriangleRow : OpenClaim := { program := "ytblidpodbpoaeaa", sum := "a0132d1e7524da65a17b701919bb287c8a0dea093cec83e8ca1451c9427d5879", func := "loop.example/g01329/laws.FnExactShrinkTriangle", spec := "fnExactShrinkTriangle", unfollowed := true, recurses := true, apart := false }
def FnExactShrinkTriangleSaid : Prop := fnExactShrinkTriangleRow.holds Try.pinned (OpenSpec.ofChange fnExactShrinkTriangleSpec)

/-- ITS FALSE NEIGHBOUR: 'it returns false'. Refute it at one input. -/
def fnExactShrinkTriangleWrong : ChangeSpec := { name := "fnExactShrinkTriangle", fn := fun _ => fun
  | [d1, d2, d3, d4] => { results := [.lit (.bool false)], args := [d1, d2, d3, d4] }
  | _ => none }
def FnExactShrinkTriangleWrongFalsely : Prop := fnExactShrinkTriangleRow.holds Try.pinned (OpenSpec.ofChange fnExactShrinkTriangleWrong)

/-- 'laws.FnExactLeadsTo': WHATEVER THE INPUT: true; the input reads as it did. -/
def fnExactLeadsToSpec : ChangeSpec := { name := "fnExactLeadsTo", fn := fun _ => fun
  | [d1, d2, d3] => { results := [.lit (.bool true)], args := [d1, d2, d3] }
  | _ => none }
def fnExactLeadsToRow : OpenClaim := { program := "ytblidpodbpoaeaa", sum := "a0132d1e7524da65a17b701919bb287c8a0dea093cec83e8ca1451c9427d5879", func := "loop.example/g01329/laws.FnExactLeadsTo", spec := "fnExactLeadsTo", unfollowed := true, recurses := true, apart := false }
def FnExactLeadsToSaid : Prop := fnExactLeadsToRow.holds Try.pinned (OpenSpec.ofChange fnExactLeadsToSpec)

/-- ITS FALSE NEIGHBOUR: 'it returns false'. Refute it at one input. -/
def fnExactLeadsToWrong : ChangeSpec := { name := "fnExactLeadsTo", fn := fun _ => fun
  | [d1, d2, d3] => { results := [.lit (.bool false)], args := [d1, d2, d3] }
  | _ => none }
def FnExactLeadsToWrongFalsely : Prop := fnExactLeadsToRow.holds Try.pinned (OpenSpec.ofChange fnExactLeadsToWrong)

/-- 'laws.FnExactCycleTypeOf': WHATEVER THE INPUT: true; the input reads as it did. -/
def fnExactCycleTypeOfSpec : ChangeSpec := { name := "fnExactCycleTypeOf", fn := fun _ => fun
  | [d] => { results := [.lit (.bool true)], args := [d] }
  | _ => none }
def fnExactCycleTypeOfRow : OpenClaim := { program := "ytblidpodbpoaeaa", sum := "a0132d1e7524da65a17b701919bb287c8a0dea093cec83e8ca1451c9427d5879", func := "loop.example/g01329/laws.FnExactCycleTypeOf", spec := "fnExactCycleTypeOf", unfollowed := true, recurses := true, apart := false }
def FnExactCycleTypeOfSaid : Prop := fnExactCycleTypeOfRow.holds Try.pinned (OpenSpec.ofChange fnExactCycleTypeOfSpec)

/-- ITS FALSE NEIGHBOUR: 'it returns false'. Refute it at one input. -/
def fnExactCycleTypeOfWrong : ChangeSpec := { name := "fnExactCycleTypeOf", fn := fun _ => fun
  | [d] => { results := [.lit (.bool false)], args := [d] }
  | _ => none }
def FnExactCycleTypeOfWrongFalsely : Prop := fnExactCycleTypeOfRow.holds Try.pinned (OpenSpec.ofChange fnExactCycleTypeOfWrong)

/- THE SECOND FORM. 'bulk': how many values and letters a reading holds, each counted each time it is reached (what is shared counts as often as it is met; a slice's spare places count too). A statement '..UptoSaid' is the law's where the arguments, and the package variables that the reading takes, are together of bulk at most 1048576: NARROWER than '..Said'. Prove '..Said' where nothing that the law and all that it calls make is longer than what came in: it says more and counts as full. Else prove '..UptoSaid'. A law counts once. -/
mutual
def uptoBulk {H : Type} : DataW H → Nat
  | .lit (.string bytes) => bytes.length + 1
  | .lit _ => 1
  | .nil => 1
  | .ptr d => uptoBulk d + 1
  | .slice elems spare => uptoBulkAll elems + uptoBulkAll spare + 1
  | .agg parts => uptoBulkAll parts + 1
  | .iface _ d => uptoBulk d + 1
  | .map entries => uptoBulkEntries entries + 1
  | .held _ => 1
def uptoBulkAll {H : Type} : List (DataW H) → Nat
  | [] => 0
  | d :: r => uptoBulk d + uptoBulkAll r
def uptoBulkEntries {H : Type} : List (Lit × DataW H) → Nat
  | [] => 0
  | x :: r => uptoBulkEntry x + uptoBulkEntries r
def uptoBulkEntry {H : Type} : Lit × DataW H → Nat
  | (.string bytes, d) => bytes.length + uptoBulk d + 1
  | (_, d) => uptoBulk d + 1
 end
def uptoSmall : (H : Type) → List (DataW H) → Bool := fun _ ds => decide (uptoBulkAll ds ≤ 1048576)
def OpenSpec.upto (s : _root_.Go.ChangeSpec) : _root_.Go.OpenSpec := { _root_.Go.OpenSpec.ofChange s with cond := some uptoSmall }

/-- 'laws.FnExactFlowerGraph', WHERE WHAT IT READS IS OF BULK AT MOST 1048576: true; the input reads as it did. -/
def fnExactFlowerGraphUptoRow : OpenClaim := { program := "ytblidpodbpoaeaa", sum := "a0132d1e7524da65a17b701919bb287c8a0dea093cec83e8ca1451c9427d5879", func := "loop.example/g01329/laws.FnExactFlowerGraph", spec := "fnExactFlowerGraph", unfollowed := true, recurses := true, apart := false, narrowed := true }
def FnExactFlowerGraphUptoSaid : Prop := fnExactFlowerGraphUptoRow.holds Try.pinned (OpenSpec.upto fnExactFlowerGraphSpec)

/-- 'laws.FnExactBridgeEdges', WHERE WHAT IT READS IS OF BULK AT MOST 1048576: true; the input reads as it did. -/
def fnExactBridgeEdgesUptoRow : OpenClaim := { program := "ytblidpodbpoaeaa", sum := "a0132d1e7524da65a17b701919bb287c8a0dea093cec83e8ca1451c9427d5879", func := "loop.example/g01329/laws.FnExactBridgeEdges", spec := "fnExactBridgeEdges", unfollowed := true, recurses := true, apart := false, narrowed := true }
def FnExactBridgeEdgesUptoSaid : Prop := fnExactBridgeEdgesUptoRow.holds Try.pinned (OpenSpec.upto fnExactBridgeEdgesSpec)

/-- 'laws.FnExactOpenVertex', WHERE WHAT IT READS IS OF BULK AT MOST 1048576: true; the input reads as it did. -/
def fnExactOpenVertexUptoRow : OpenClaim := { program := "ytblidpodbpoaeaa", sum := "a0132d1e7524da65a17b701919bb287c8a0dea093cec83e8ca1451c9427d5879", func := "loop.example/g01329/laws.FnExactOpenVertex", spec := "fnExactOpenVertex", unfollowed := true, recurses := true, apart := false, narrowed := true }
def FnExactOpenVertexUptoSaid : Prop := fnExactOpenVertexUptoRow.holds Try.pinned (OpenSpec.upto fnExactOpenVertexSpec)

/-- 'laws.FnExactStarProduct', WHERE WHAT IT READS IS OF BULK AT MOST 1048576: true; the input reads as it did. -/
def fnExactStarProductUptoRow : OpenClaim := { program := "ytblidpodbpoaeaa", sum := "a0132d1e7524da65a17b701919bb287c8a0dea093cec83e8ca1451c9427d5879", func := "loop.example/g01329/laws.FnExactStarProduct", spec := "fnExactStarProduct", unfollowed := true, recurses := true, apart := false, narrowed := true }
def FnExactStarProductUptoSaid : Prop := fnExactStarProductUptoRow.holds Try.pinned (OpenSpec.upto fnExactStarProductSpec)

/-- 'laws.FnExactShrinkTriangle', WHERE WHAT IT READS IS OF BULK AT MOST 1048576: true; the input reads as it did. -/
def fnExactShrinkTriangleUptoRow : OpenClaim := { program := "ytblidpodbpoaeaa", sum := "a0132d1e7524da65a17b701919bb287c8a0dea093cec83e8ca1451c9427d5879", func := "loop.example/g01329/laws.FnExactShrinkTriangle", spec := "fnExactShrinkTriangle", unfollowed := true, recurses := true, apart := false, narrowed := true }
def FnExactShrinkTriangleUptoSaid : Prop := fnExactShrinkTriangleUptoRow.holds Try.pinned (OpenSpec.upto fnExactShrinkTriangleSpec)

/-- 'laws.FnExactLeadsTo', WHERE WHAT IT READS IS OF BULK AT MOST 1048576: true; the input reads as it did. -/
def fnExactLeadsToUptoRow : OpenClaim := { program := "ytblidpodbpoaeaa", sum := "a0132d1e7524da65a17b701919bb287c8a0dea093cec83e8ca1451c9427d5879", func := "loop.example/g01329/laws.FnExactLeadsTo", spec := "fnExactLeadsTo", unfollowed := true, recurses := true, apart := false, narrowed := true }
def FnExactLeadsToUptoSaid : Prop := fnExactLeadsToUptoRow.holds Try.pinned (OpenSpec.upto fnExactLeadsToSpec)

/-- 'laws.FnExactCycleTypeOf', WHERE WHAT IT READS IS OF BULK AT MOST 1048576: true; the input reads as it did. -/
def fnExactCycleTypeOfUptoRow : OpenClaim := { program := "ytblidpodbpoaeaa", sum := "a0132d1e7524da65a17b701919bb287c8a0dea093cec83e8ca1451c9427d5879", func := "loop.example/g01329/laws.FnExactCycleTypeOf", spec := "fnExactCycleTypeOf", unfollowed := true, recurses := true, apart := false, narrowed := true }
def FnExactCycleTypeOfUptoSaid : Prop := fnExactCycleTypeOfUptoRow.holds Try.pinned (OpenSpec.upto fnExactCycleTypeOfSpec)

end Rows
end Go.Proofs.Ytblidpodbpoaeaa
