/-
  No cell of these rows narrows 'for every input' (looked for: loops, veiled, ifaces, maps, wideKeys, modest, calm, conditions, laid).
  DERIVED. THE GIVEN ROWS OF THIS SEAT. 5 by the template 'for every input the law returns true; each argument reads behind the call as it read before'; 0 by the template 'total and deterministic' (their statements: YtaphjehkpdjolaaTotals.lean).
  GIVEN WITH THE SEED: the statements are not yours to turn. If you find one false, say at which input.
  Laid BY PROGRAM, IN A SANDBOX (cutbox-rows.mjs): the forced cells as the released guide's own fill.sh prints them over the translation 754362276a23c12b… (all of the seat's roots in one cut). By AI agents, Wed Nov 11 2026. No macro, syntax, notation, axiom, sorry.
-/
import Derived.Test.YtaphjehkpdjolaaChecked
import GoSem.Claim
import GoSem.ClaimJoined
import GoSem.ClaimMapViews
import Derived.JoinedTies
import Derived.KernelRfl
namespace Go.Proofs.Ytaphjehkpdjolaa
/- THE CELL 'sum', in the pinned program and in every row, IS THE sha256 OF THE DUMP (.gsa) THAT YtaphjehkpdjolaaProg.lean LOADS. Nothing in Lean hashes anything: it is a label: what it is worth is what the hold of that sum in a sandbox is worth. -/
noncomputable def Try.pinned : Pinned := { name := "ytaphjehkpdjolaa", sum := "754362276a23c12b34d073a73578ecfaaed07e9bbfa608c75d181a0e133cb919", checked := Try.checked }
namespace Rows
def none {H : Type} : Left H := { results := [], args := [] }

/-- 'mapmakerlaw22.NestPolygons': WHATEVER THE INPUT: true; the input reads as it did. -/
def nestPolygonsSpec : ChangeSpec := { name := "nestPolygons", fn := fun _ => fun
  | [d] => { results := [.lit (.bool true)], args := [d] }
  | _ => none }
def nestPolygonsRow : OpenClaim := { program := "ytaphjehkpdjolaa", sum := "754362276a23c12b34d073a73578ecfaaed07e9bbfa608c75d181a0e133cb919", func := "mapmaker/mapmakerlaw22.NestPolygons", spec := "nestPolygons", unfollowed := true, recurses := true, apart := false }
def NestPolygonsSaid : Prop := nestPolygonsRow.holds Try.pinned (OpenSpec.ofChange nestPolygonsSpec)

/-- ITS FALSE NEIGHBOUR: 'it returns false'. Refute it at one input. -/
def nestPolygonsWrong : ChangeSpec := { name := "nestPolygons", fn := fun _ => fun
  | [d] => { results := [.lit (.bool false)], args := [d] }
  | _ => none }
def NestPolygonsWrongFalsely : Prop := nestPolygonsRow.holds Try.pinned (OpenSpec.ofChange nestPolygonsWrong)

/-- 'mapmakerlaw22.NestWithin': WHATEVER THE INPUT: true; the input reads as it did. -/
def nestWithinSpec : ChangeSpec := { name := "nestWithin", fn := fun _ => fun
  | [d1, d2] => { results := [.lit (.bool true)], args := [d1, d2] }
  | _ => none }
def nestWithinRow : OpenClaim := { program := "ytaphjehkpdjolaa", sum := "754362276a23c12b34d073a73578ecfaaed07e9bbfa608c75d181a0e133cb919", func := "mapmaker/mapmakerlaw22.NestWithin", spec := "nestWithin", unfollowed := true, recurses := true, apart := false }
def NestWithinSaid : Prop := nestWithinRow.holds Try.pinned (OpenSpec.ofChange nestWithinSpec)

/-- ITS FALSE NEIGHBOUR: 'it returns false'. Refute it at one input. -/
def nestWithinWrong : ChangeSpec := { name := "nestWithin", fn := fun _ => fun
  | [d1, d2] => { results := [.lit (.bool false)], args := [d1, d2] }
  | _ => none }
def NestWithinWrongFalsely : Prop := nestWithinRow.holds Try.pinned (OpenSpec.ofChange nestWithinWrong)

/-- 'mapmakerlaw22.NestRings': WHATEVER THE INPUT: true; the input reads as it did. -/
def nestRingsSpec : ChangeSpec := { name := "nestRings", fn := fun _ => fun
  | [d] => { results := [.lit (.bool true)], args := [d] }
  | _ => none }
def nestRingsRow : OpenClaim := { program := "ytaphjehkpdjolaa", sum := "754362276a23c12b34d073a73578ecfaaed07e9bbfa608c75d181a0e133cb919", func := "mapmaker/mapmakerlaw22.NestRings", spec := "nestRings", unfollowed := true, recurses := true, apart := false }
def NestRingsSaid : Prop := nestRingsRow.holds Try.pinned (OpenSpec.ofChange nestRingsSpec)

/-- ITS FALSE NEIGHBOUR: 'it returns false'. Refute it at one input. -/
def nestRingsWrong : ChangeSpec := { name := "nestRings", fn := fun _ => fun
  | [d] => { results := [.lit (.bool false)], args := [d] }
  | _ => none }
def NestRingsWrongFalsely : Prop := nestRingsRow.holds Try.pinned (OpenSpec.ofChange nestRingsWrong)

/-- 'mapmakerlaw22.NestWheres': WHATEVER THE INPUT: true; the input reads as it did. -/
def nestWheresSpec : ChangeSpec := { name := "nestWheres", fn := fun _ => fun
  | [d1, d2] => { results := [.lit (.bool true)], args := [d1, d2] }
  | _ => none }
def nestWheresRow : OpenClaim := { program := "ytaphjehkpdjolaa", sum := "754362276a23c12b34d073a73578ecfaaed07e9bbfa608c75d181a0e133cb919", func := "mapmaker/mapmakerlaw22.NestWheres", spec := "nestWheres", unfollowed := true, recurses := true, apart := false }
def NestWheresSaid : Prop := nestWheresRow.holds Try.pinned (OpenSpec.ofChange nestWheresSpec)

/-- ITS FALSE NEIGHBOUR: 'it returns false'. Refute it at one input. -/
def nestWheresWrong : ChangeSpec := { name := "nestWheres", fn := fun _ => fun
  | [d1, d2] => { results := [.lit (.bool false)], args := [d1, d2] }
  | _ => none }
def NestWheresWrongFalsely : Prop := nestWheresRow.holds Try.pinned (OpenSpec.ofChange nestWheresWrong)

/-- 'mapmakerlaw22.NestParts': WHATEVER THE INPUT: true; the input reads as it did. -/
def nestPartsSpec : ChangeSpec := { name := "nestParts", fn := fun _ => fun
  | [d] => { results := [.lit (.bool true)], args := [d] }
  | _ => none }
def nestPartsRow : OpenClaim := { program := "ytaphjehkpdjolaa", sum := "754362276a23c12b34d073a73578ecfaaed07e9bbfa608c75d181a0e133cb919", func := "mapmaker/mapmakerlaw22.NestParts", spec := "nestParts", unfollowed := true, recurses := true, apart := false }
def NestPartsSaid : Prop := nestPartsRow.holds Try.pinned (OpenSpec.ofChange nestPartsSpec)

/-- ITS FALSE NEIGHBOUR: 'it returns false'. Refute it at one input. -/
def nestPartsWrong : ChangeSpec := { name := "nestParts", fn := fun _ => fun
  | [d] => { results := [.lit (.bool false)], args := [d] }
  | _ => none }
def NestPartsWrongFalsely : Prop := nestPartsRow.holds Try.pinned (OpenSpec.ofChange nestPartsWrong)

/- THE SECOND FORM. 'bulk': how many values and letters a reading holds, each counted each time it is reached (what is shared counts as often as it is met; a slice's spare places count too). A statement '..UptoSaid' is the law's where the arguments, and the package variables that the reading takes, are together of bulk at most 1048576: NARROWER than '..Said'. Prove '..Said' where nothing that the law and all that it calls make is longer than what came in: it says more and counts as full. Else prove '..UptoSaid'. A law counts once. -/
mutual
def uptoBulk {H : Type} : DataW H → Nat
  | .lit (.string bytes) => bytes.length + 1
  | .lit _ => 1
  | .nil => 1
  | .ptr d => uptoBulk d + 1
  | .slice elems spare => uptoBulkAll elems + uptoBulkAll spare + 1
  | .agg parts => uptoBulkAll parts + 1
  | .iface _ d => uptoBulk d + 1
  | .map entries => uptoBulkEntries entries + 1
  | .held _ => 1
def uptoBulkAll {H : Type} : List (DataW H) → Nat
  | [] => 0
  | d :: r => uptoBulk d + uptoBulkAll r
def uptoBulkEntries {H : Type} : List (Lit × DataW H) → Nat
  | [] => 0
  | x :: r => uptoBulkEntry x + uptoBulkEntries r
def uptoBulkEntry {H : Type} : Lit × DataW H → Nat
  | (.string bytes, d) => bytes.length + uptoBulk d + 1
  | (_, d) => uptoBulk d + 1
 end
def uptoSmall : (H : Type) → List (DataW H) → Bool := fun _ ds => decide (uptoBulkAll ds ≤ 1048576)
def OpenSpec.upto (s : _root_.Go.ChangeSpec) : _root_.Go.OpenSpec := { _root_.Go.OpenSpec.ofChange s with cond := some uptoSmall }

/-- 'mapmakerlaw22.NestPolygons', WHERE WHAT IT READS IS OF BULK AT MOST 1048576: true; the input reads as it did. -/
def nestPolygonsUptoRow : OpenClaim := { program := "ytaphjehkpdjolaa", sum := "754362276a23c12b34d073a73578ecfaaed07e9bbfa608c75d181a0e133cb919", func := "mapmaker/mapmakerlaw22.NestPolygons", spec := "nestPolygons", unfollowed := true, recurses := true, apart := false, narrowed := true }
def NestPolygonsUptoSaid : Prop := nestPolygonsUptoRow.holds Try.pinned (OpenSpec.upto nestPolygonsSpec)

/-- 'mapmakerlaw22.NestWithin', WHERE WHAT IT READS IS OF BULK AT MOST 1048576: true; the input reads as it did. -/
def nestWithinUptoRow : OpenClaim := { program := "ytaphjehkpdjolaa", sum := "754362276a23c12b34d073a73578ecfaaed07e9bbfa608c75d181a0e133cb919", func := "mapmaker/mapmakerlaw22.NestWithin", spec := "nestWithin", unfollowed := true, recurses := true, apart := false, narrowed := true }
def NestWithinUptoSaid : Prop := nestWithinUptoRow.holds Try.pinned (OpenSpec.upto nestWithinSpec)

/-- 'mapmakerlaw22.NestRings', WHERE WHAT IT READS IS OF BULK AT MOST 1048576: true; the input reads as it did. -/
def nestRingsUptoRow : OpenClaim := { program := "ytaphjehkpdjolaa", sum := "754362276a23c12b34d073a73578ecfaaed07e9bbfa608c75d181a0e133cb919", func := "mapmaker/mapmakerlaw22.NestRings", spec := "nestRings", unfollowed := true, recurses := true, apart := false, narrowed := true }
def NestRingsUptoSaid : Prop := nestRingsUptoRow.holds Try.pinned (OpenSpec.upto nestRingsSpec)

/-- 'mapmakerlaw22.NestWheres', WHERE WHAT IT READS IS OF BULK AT MOST 1048576: true; the input reads as it did. -/
def nestWheresUptoRow : OpenClaim := { program := "ytaphjehkpdjolaa", sum := "754362276a23c12b34d073a73578ecfaaed07e9bbfa608c75d181a0e133cb919", func := "mapmaker/mapmakerlaw22.NestWheres", spec := "nestWheres", unfollowed := true, recurses := true, apart := false, narrowed := true }
def NestWheresUptoSaid : Prop := nestWheresUptoRow.holds Try.pinned (OpenSpec.upto nestWheresSpec)

/-- 'mapmakerlaw22.NestParts', WHERE WHAT IT READS IS OF BULK AT MOST 1048576: true; the input reads as it did. -/
def nestPartsUptoRow : OpenClaim := { program := "ytaphjehkpdjolaa", sum := "754362276a23c12b34d073a73578ecfaaed07e9bbfa608c75d181a0e133cb919", func := "mapmaker/mapmakerlaw22.NestParts", spec := "nestParts", unfollowed := true, recurses := true, apart := false, narrowed := true }
def NestPartsUptoSaid : Prop := nestPartsUptoRow.holds Try.pinned (OpenSpec.upto nestPartsSpec)

end Rows
end Go.Proofs.Ytaphjehkpdjolaa
