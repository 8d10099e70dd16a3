/-
  No cell of these rows narrows 'for every input' (looked for: loops, veiled, ifaces, maps, wideKeys, modest, calm, conditions, laid).
  DERIVED. THE GIVEN ROWS OF THIS SEAT. 6 by the template 'for every input the law returns true; each argument reads behind the call as it read before'; 0 by the template 'total and deterministic' (their statements: YtniceoinipffmaaTotals.lean).
  GIVEN WITH THE SEED: the statements are not yours to turn. If you find one false, say at which input.
  Laid BY PROGRAM, IN A SANDBOX (cutbox-rows.mjs): the forced cells as the released guide's own fill.sh prints them over the translation 649e14f06a3c4b4b… (all of the seat's roots in one cut). By AI agents, Wed Nov 11 2026. No macro, syntax, notation, axiom, sorry.
-/
import Derived.Test.YtniceoinipffmaaChecked
import GoSem.Claim
import GoSem.ClaimJoined
import GoSem.ClaimMapViews
import Derived.JoinedTies
import Derived.KernelRfl
namespace Go.Proofs.Ytniceoinipffmaa
/- THE CELL 'sum', in the pinned program and in every row, IS THE sha256 OF THE DUMP (.gsa) THAT YtniceoinipffmaaProg.lean LOADS. Nothing in Lean hashes anything: it is a label: what it is worth is what the hold of that sum in a sandbox is worth. -/
noncomputable def Try.pinned : Pinned := { name := "ytniceoinipffmaa", sum := "649e14f06a3c4b4b6eeb041fa698303262d3ccee56bceb46762e7c133ac0fb73", checked := Try.checked }
namespace Rows
def none {H : Type} : Left H := { results := [], args := [] }

/-- 'mapmakerlaw19.NormalPoints': WHATEVER THE INPUT: true; the input reads as it did. -/
def normalPointsSpec : ChangeSpec := { name := "normalPoints", fn := fun _ => fun
  | [d] => { results := [.lit (.bool true)], args := [d] }
  | _ => none }
def normalPointsRow : OpenClaim := { program := "ytniceoinipffmaa", sum := "649e14f06a3c4b4b6eeb041fa698303262d3ccee56bceb46762e7c133ac0fb73", func := "mapmaker/mapmakerlaw19.NormalPoints", spec := "normalPoints", unfollowed := true, recurses := true, plainKeys := false, apart := false }
def NormalPointsSaid : Prop := normalPointsRow.holds Try.pinned (OpenSpec.ofChange normalPointsSpec)

/-- ITS FALSE NEIGHBOUR: 'it returns false'. Refute it at one input. -/
def normalPointsWrong : ChangeSpec := { name := "normalPoints", fn := fun _ => fun
  | [d] => { results := [.lit (.bool false)], args := [d] }
  | _ => none }
def NormalPointsWrongFalsely : Prop := normalPointsRow.holds Try.pinned (OpenSpec.ofChange normalPointsWrong)

/-- 'mapmakerlaw19.NormalLines': WHATEVER THE INPUT: true; the input reads as it did. -/
def normalLinesSpec : ChangeSpec := { name := "normalLines", fn := fun _ => fun
  | [d] => { results := [.lit (.bool true)], args := [d] }
  | _ => none }
def normalLinesRow : OpenClaim := { program := "ytniceoinipffmaa", sum := "649e14f06a3c4b4b6eeb041fa698303262d3ccee56bceb46762e7c133ac0fb73", func := "mapmaker/mapmakerlaw19.NormalLines", spec := "normalLines", unfollowed := true, recurses := true, plainKeys := false, apart := false }
def NormalLinesSaid : Prop := normalLinesRow.holds Try.pinned (OpenSpec.ofChange normalLinesSpec)

/-- ITS FALSE NEIGHBOUR: 'it returns false'. Refute it at one input. -/
def normalLinesWrong : ChangeSpec := { name := "normalLines", fn := fun _ => fun
  | [d] => { results := [.lit (.bool false)], args := [d] }
  | _ => none }
def NormalLinesWrongFalsely : Prop := normalLinesRow.holds Try.pinned (OpenSpec.ofChange normalLinesWrong)

/-- 'mapmakerlaw19.NormalMerges': WHATEVER THE INPUT: true; the input reads as it did. -/
def normalMergesSpec : ChangeSpec := { name := "normalMerges", fn := fun _ => fun
  | [d] => { results := [.lit (.bool true)], args := [d] }
  | _ => none }
def normalMergesRow : OpenClaim := { program := "ytniceoinipffmaa", sum := "649e14f06a3c4b4b6eeb041fa698303262d3ccee56bceb46762e7c133ac0fb73", func := "mapmaker/mapmakerlaw19.NormalMerges", spec := "normalMerges", unfollowed := true, recurses := true, plainKeys := false, apart := false }
def NormalMergesSaid : Prop := normalMergesRow.holds Try.pinned (OpenSpec.ofChange normalMergesSpec)

/-- ITS FALSE NEIGHBOUR: 'it returns false'. Refute it at one input. -/
def normalMergesWrong : ChangeSpec := { name := "normalMerges", fn := fun _ => fun
  | [d] => { results := [.lit (.bool false)], args := [d] }
  | _ => none }
def NormalMergesWrongFalsely : Prop := normalMergesRow.holds Try.pinned (OpenSpec.ofChange normalMergesWrong)

/-- 'mapmakerlaw19.NormalShapes': WHATEVER THE INPUT: true; the input reads as it did. -/
def normalShapesSpec : ChangeSpec := { name := "normalShapes", fn := fun _ => fun
  | [d] => { results := [.lit (.bool true)], args := [d] }
  | _ => none }
def normalShapesRow : OpenClaim := { program := "ytniceoinipffmaa", sum := "649e14f06a3c4b4b6eeb041fa698303262d3ccee56bceb46762e7c133ac0fb73", func := "mapmaker/mapmakerlaw19.NormalShapes", spec := "normalShapes", unfollowed := true, recurses := true, plainKeys := false, apart := false }
def NormalShapesSaid : Prop := normalShapesRow.holds Try.pinned (OpenSpec.ofChange normalShapesSpec)

/-- ITS FALSE NEIGHBOUR: 'it returns false'. Refute it at one input. -/
def normalShapesWrong : ChangeSpec := { name := "normalShapes", fn := fun _ => fun
  | [d] => { results := [.lit (.bool false)], args := [d] }
  | _ => none }
def NormalShapesWrongFalsely : Prop := normalShapesRow.holds Try.pinned (OpenSpec.ofChange normalShapesWrong)

/-- 'mapmakerlaw19.NormalStays': WHATEVER THE INPUT: true; the input reads as it did. -/
def normalStaysSpec : ChangeSpec := { name := "normalStays", fn := fun _ => fun
  | [d] => { results := [.lit (.bool true)], args := [d] }
  | _ => none }
def normalStaysRow : OpenClaim := { program := "ytniceoinipffmaa", sum := "649e14f06a3c4b4b6eeb041fa698303262d3ccee56bceb46762e7c133ac0fb73", func := "mapmaker/mapmakerlaw19.NormalStays", spec := "normalStays", unfollowed := true, recurses := true, plainKeys := false, apart := false }
def NormalStaysSaid : Prop := normalStaysRow.holds Try.pinned (OpenSpec.ofChange normalStaysSpec)

/-- ITS FALSE NEIGHBOUR: 'it returns false'. Refute it at one input. -/
def normalStaysWrong : ChangeSpec := { name := "normalStays", fn := fun _ => fun
  | [d] => { results := [.lit (.bool false)], args := [d] }
  | _ => none }
def NormalStaysWrongFalsely : Prop := normalStaysRow.holds Try.pinned (OpenSpec.ofChange normalStaysWrong)

/-- 'mapmakerlaw19.NormalWays': WHATEVER THE INPUT: true; the input reads as it did. -/
def normalWaysSpec : ChangeSpec := { name := "normalWays", fn := fun _ => fun
  | [d1, d2] => { results := [.lit (.bool true)], args := [d1, d2] }
  | _ => none }
def normalWaysRow : OpenClaim := { program := "ytniceoinipffmaa", sum := "649e14f06a3c4b4b6eeb041fa698303262d3ccee56bceb46762e7c133ac0fb73", func := "mapmaker/mapmakerlaw19.NormalWays", spec := "normalWays", unfollowed := true, recurses := true, plainKeys := false, apart := false }
def NormalWaysSaid : Prop := normalWaysRow.holds Try.pinned (OpenSpec.ofChange normalWaysSpec)

/-- ITS FALSE NEIGHBOUR: 'it returns false'. Refute it at one input. -/
def normalWaysWrong : ChangeSpec := { name := "normalWays", fn := fun _ => fun
  | [d1, d2] => { results := [.lit (.bool false)], args := [d1, d2] }
  | _ => none }
def NormalWaysWrongFalsely : Prop := normalWaysRow.holds Try.pinned (OpenSpec.ofChange normalWaysWrong)

/- THE SECOND FORM. 'bulk': how many values and letters a reading holds, each counted each time it is reached (what is shared counts as often as it is met; a slice's spare places count too). A statement '..UptoSaid' is the law's where the arguments, and the package variables that the reading takes, are together of bulk at most 1048576: NARROWER than '..Said'. Prove '..Said' where nothing that the law and all that it calls make is longer than what came in: it says more and counts as full. Else prove '..UptoSaid'. A law counts once. -/
mutual
def uptoBulk {H : Type} : DataW H → Nat
  | .lit (.string bytes) => bytes.length + 1
  | .lit _ => 1
  | .nil => 1
  | .ptr d => uptoBulk d + 1
  | .slice elems spare => uptoBulkAll elems + uptoBulkAll spare + 1
  | .agg parts => uptoBulkAll parts + 1
  | .iface _ d => uptoBulk d + 1
  | .map entries => uptoBulkEntries entries + 1
  | .held _ => 1
def uptoBulkAll {H : Type} : List (DataW H) → Nat
  | [] => 0
  | d :: r => uptoBulk d + uptoBulkAll r
def uptoBulkEntries {H : Type} : List (Lit × DataW H) → Nat
  | [] => 0
  | x :: r => uptoBulkEntry x + uptoBulkEntries r
def uptoBulkEntry {H : Type} : Lit × DataW H → Nat
  | (.string bytes, d) => bytes.length + uptoBulk d + 1
  | (_, d) => uptoBulk d + 1
 end
def uptoSmall : (H : Type) → List (DataW H) → Bool := fun _ ds => decide (uptoBulkAll ds ≤ 1048576)
def OpenSpec.upto (s : _root_.Go.ChangeSpec) : _root_.Go.OpenSpec := { _root_.Go.OpenSpec.ofChange s with cond := some uptoSmall }

/-- 'mapmakerlaw19.NormalPoints', WHERE WHAT IT READS IS OF BULK AT MOST 1048576: true; the input reads as it did. -/
def normalPointsUptoRow : OpenClaim := { program := "ytniceoinipffmaa", sum := "649e14f06a3c4b4b6eeb041fa698303262d3ccee56bceb46762e7c133ac0fb73", func := "mapmaker/mapmakerlaw19.NormalPoints", spec := "normalPoints", unfollowed := true, recurses := true, plainKeys := false, apart := false, narrowed := true }
def NormalPointsUptoSaid : Prop := normalPointsUptoRow.holds Try.pinned (OpenSpec.upto normalPointsSpec)

/-- 'mapmakerlaw19.NormalLines', WHERE WHAT IT READS IS OF BULK AT MOST 1048576: true; the input reads as it did. -/
def normalLinesUptoRow : OpenClaim := { program := "ytniceoinipffmaa", sum := "649e14f06a3c4b4b6eeb041fa698303262d3ccee56bceb46762e7c133ac0fb73", func := "mapmaker/mapmakerlaw19.NormalLines", spec := "normalLines", unfollowed := true, recurses := true, plainKeys := false, apart := false, narrowed := true }
def NormalLinesUptoSaid : Prop := normalLinesUptoRow.holds Try.pinned (OpenSpec.upto normalLinesSpec)

/-- 'mapmakerlaw19.NormalMerges', WHERE WHAT IT READS IS OF BULK AT MOST 1048576: true; the input reads as it did. -/
def normalMergesUptoRow : OpenClaim := { program := "ytniceoinipffmaa", sum := "649e14f06a3c4b4b6eeb041fa698303262d3ccee56bceb46762e7c133ac0fb73", func := "mapmaker/mapmakerlaw19.NormalMerges", spec := "normalMerges", unfollowed := true, recurses := true, plainKeys := false, apart := false, narrowed := true }
def NormalMergesUptoSaid : Prop := normalMergesUptoRow.holds Try.pinned (OpenSpec.upto normalMergesSpec)

/-- 'mapmakerlaw19.NormalShapes', WHERE WHAT IT READS IS OF BULK AT MOST 1048576: true; the input reads as it did. -/
def normalShapesUptoRow : OpenClaim := { program := "ytniceoinipffmaa", sum := "649e14f06a3c4b4b6eeb041fa698303262d3ccee56bceb46762e7c133ac0fb73", func := "mapmaker/mapmakerlaw19.NormalShapes", spec := "normalShapes", unfollowed := true, recurses := true, plainKeys := false, apart := false, narrowed := true }
def NormalShapesUptoSaid : Prop := normalShapesUptoRow.holds Try.pinned (OpenSpec.upto normalShapesSpec)

/-- 'mapmakerlaw19.NormalStays', WHERE WHAT IT READS IS OF BULK AT MOST 1048576: true; the input reads as it did. -/
def normalStaysUptoRow : OpenClaim := { program := "ytniceoinipffmaa", sum := "649e14f06a3c4b4b6eeb041fa698303262d3ccee56bceb46762e7c133ac0fb73", func := "mapmaker/mapmakerlaw19.NormalStays", spec := "normalStays", unfollowed := true, recurses := true, plainKeys := false, apart := false, narrowed := true }
def NormalStaysUptoSaid : Prop := normalStaysUptoRow.holds Try.pinned (OpenSpec.upto normalStaysSpec)

/-- 'mapmakerlaw19.NormalWays', WHERE WHAT IT READS IS OF BULK AT MOST 1048576: true; the input reads as it did. -/
def normalWaysUptoRow : OpenClaim := { program := "ytniceoinipffmaa", sum := "649e14f06a3c4b4b6eeb041fa698303262d3ccee56bceb46762e7c133ac0fb73", func := "mapmaker/mapmakerlaw19.NormalWays", spec := "normalWays", unfollowed := true, recurses := true, plainKeys := false, apart := false, narrowed := true }
def NormalWaysUptoSaid : Prop := normalWaysUptoRow.holds Try.pinned (OpenSpec.upto normalWaysSpec)

end Rows
end Go.Proofs.Ytniceoinipffmaa
