/-
  No cell of these rows narrows 'for every input' (looked for: loops, veiled, ifaces, maps, wideKeys, modest, calm, conditions, laid).
  DERIVED. THE GIVEN ROWS OF THIS SEAT. 5 by the template 'for every input the law returns true; each argument reads behind the call as it read before'; 0 by the template 'total and deterministic' (their statements: YtlmjciajpjdilaaGreatTotals.lean).
  GIVEN WITH THE SEED: the statements are not yours to turn. If you find one false, say at which input.
  Laid BY PROGRAM, IN A SANDBOX (cutbox-rows.mjs): the forced cells as the released guide's own fill.sh prints them over the translation c97cdd9e270cc9f1… (all of the seat's roots in one cut). By AI agents, Wed Nov 11 2026. No macro, syntax, notation, axiom, sorry.
-/
import Derived.Test.YtlmjciajpjdilaaGreatChecked
import GoSem.Claim
import GoSem.ClaimJoined
import GoSem.ClaimMapViews
import Derived.JoinedTies
import Derived.KernelRfl
namespace Go.Proofs.YtlmjciajpjdilaaGreat
/- THE CELL 'sum', in the pinned program and in every row, IS THE sha256 OF THE DUMP (.gsa) THAT YtlmjciajpjdilaaGreatProg.lean LOADS. Nothing in Lean hashes anything: it is a label: what it is worth is what the hold of that sum in a sandbox is worth. -/
noncomputable def Tryz.pinned : Pinned := { name := "ytlmjciajpjdilaagreat", sum := "c97cdd9e270cc9f13bc37a5f771b0c62f1190eeed81e3fd82ac4de56d0c2f567", checked := Tryz.checked }
namespace Rows
def none {H : Type} : Left H := { results := [], args := [] }

/-- 'mapmakerlaw21.TraceChecks': WHATEVER THE INPUT: true; the input reads as it did. -/
def traceChecksSpec : ChangeSpec := { name := "traceChecks", fn := fun _ => fun
  | [d1, d2] => { results := [.lit (.bool true)], args := [d1, d2] }
  | _ => none }
def traceChecksRow : OpenClaim := { program := "ytlmjciajpjdilaagreat", sum := "c97cdd9e270cc9f13bc37a5f771b0c62f1190eeed81e3fd82ac4de56d0c2f567", func := "mapmaker/mapmakerlaw21.TraceChecks", spec := "traceChecks", unfollowed := true, recurses := true, plainKeys := false, apart := false }
def TraceChecksSaid : Prop := traceChecksRow.holds Tryz.pinned (OpenSpec.ofChange traceChecksSpec)

/-- ITS FALSE NEIGHBOUR: 'it returns false'. Refute it at one input. -/
def traceChecksWrong : ChangeSpec := { name := "traceChecks", fn := fun _ => fun
  | [d1, d2] => { results := [.lit (.bool false)], args := [d1, d2] }
  | _ => none }
def TraceChecksWrongFalsely : Prop := traceChecksRow.holds Tryz.pinned (OpenSpec.ofChange traceChecksWrong)

/-- 'mapmakerlaw21.TraceRings': WHATEVER THE INPUT: true; the input reads as it did. -/
def traceRingsSpec : ChangeSpec := { name := "traceRings", fn := fun _ => fun
  | [d1, d2] => { results := [.lit (.bool true)], args := [d1, d2] }
  | _ => none }
def traceRingsRow : OpenClaim := { program := "ytlmjciajpjdilaagreat", sum := "c97cdd9e270cc9f13bc37a5f771b0c62f1190eeed81e3fd82ac4de56d0c2f567", func := "mapmaker/mapmakerlaw21.TraceRings", spec := "traceRings", unfollowed := true, recurses := true, plainKeys := false, apart := false }
def TraceRingsSaid : Prop := traceRingsRow.holds Tryz.pinned (OpenSpec.ofChange traceRingsSpec)

/-- ITS FALSE NEIGHBOUR: 'it returns false'. Refute it at one input. -/
def traceRingsWrong : ChangeSpec := { name := "traceRings", fn := fun _ => fun
  | [d1, d2] => { results := [.lit (.bool false)], args := [d1, d2] }
  | _ => none }
def TraceRingsWrongFalsely : Prop := traceRingsRow.holds Tryz.pinned (OpenSpec.ofChange traceRingsWrong)

/-- 'mapmakerlaw21.TraceCovers': WHATEVER THE INPUT: true; the input reads as it did. -/
def traceCoversSpec : ChangeSpec := { name := "traceCovers", fn := fun _ => fun
  | [d] => { results := [.lit (.bool true)], args := [d] }
  | _ => none }
def traceCoversRow : OpenClaim := { program := "ytlmjciajpjdilaagreat", sum := "c97cdd9e270cc9f13bc37a5f771b0c62f1190eeed81e3fd82ac4de56d0c2f567", func := "mapmaker/mapmakerlaw21.TraceCovers", spec := "traceCovers", unfollowed := true, recurses := true, plainKeys := false, apart := false }
def TraceCoversSaid : Prop := traceCoversRow.holds Tryz.pinned (OpenSpec.ofChange traceCoversSpec)

/-- ITS FALSE NEIGHBOUR: 'it returns false'. Refute it at one input. -/
def traceCoversWrong : ChangeSpec := { name := "traceCovers", fn := fun _ => fun
  | [d] => { results := [.lit (.bool false)], args := [d] }
  | _ => none }
def TraceCoversWrongFalsely : Prop := traceCoversRow.holds Tryz.pinned (OpenSpec.ofChange traceCoversWrong)

/-- 'mapmakerlaw21.TraceInside': WHATEVER THE INPUT: true; the input reads as it did. -/
def traceInsideSpec : ChangeSpec := { name := "traceInside", fn := fun _ => fun
  | [d1, d2] => { results := [.lit (.bool true)], args := [d1, d2] }
  | _ => none }
def traceInsideRow : OpenClaim := { program := "ytlmjciajpjdilaagreat", sum := "c97cdd9e270cc9f13bc37a5f771b0c62f1190eeed81e3fd82ac4de56d0c2f567", func := "mapmaker/mapmakerlaw21.TraceInside", spec := "traceInside", unfollowed := true, recurses := true, plainKeys := false, apart := false }
def TraceInsideSaid : Prop := traceInsideRow.holds Tryz.pinned (OpenSpec.ofChange traceInsideSpec)

/-- ITS FALSE NEIGHBOUR: 'it returns false'. Refute it at one input. -/
def traceInsideWrong : ChangeSpec := { name := "traceInside", fn := fun _ => fun
  | [d1, d2] => { results := [.lit (.bool false)], args := [d1, d2] }
  | _ => none }
def TraceInsideWrongFalsely : Prop := traceInsideRow.holds Tryz.pinned (OpenSpec.ofChange traceInsideWrong)

/-- 'mapmakerlaw22.NestTraces': WHATEVER THE INPUT: true; the input reads as it did. -/
def nestTracesSpec : ChangeSpec := { name := "nestTraces", fn := fun _ => fun
  | [d1, d2] => { results := [.lit (.bool true)], args := [d1, d2] }
  | _ => none }
def nestTracesRow : OpenClaim := { program := "ytlmjciajpjdilaagreat", sum := "c97cdd9e270cc9f13bc37a5f771b0c62f1190eeed81e3fd82ac4de56d0c2f567", func := "mapmaker/mapmakerlaw22.NestTraces", spec := "nestTraces", unfollowed := true, recurses := true, plainKeys := false, apart := false }
def NestTracesSaid : Prop := nestTracesRow.holds Tryz.pinned (OpenSpec.ofChange nestTracesSpec)

/-- ITS FALSE NEIGHBOUR: 'it returns false'. Refute it at one input. -/
def nestTracesWrong : ChangeSpec := { name := "nestTraces", fn := fun _ => fun
  | [d1, d2] => { results := [.lit (.bool false)], args := [d1, d2] }
  | _ => none }
def NestTracesWrongFalsely : Prop := nestTracesRow.holds Tryz.pinned (OpenSpec.ofChange nestTracesWrong)

/- THE SECOND FORM. 'bulk': how many values and letters a reading holds, each counted each time it is reached (what is shared counts as often as it is met; a slice's spare places count too). A statement '..UptoSaid' is the law's where the arguments, and the package variables that the reading takes, are together of bulk at most 1048576: NARROWER than '..Said'. Prove '..Said' where nothing that the law and all that it calls make is longer than what came in: it says more and counts as full. Else prove '..UptoSaid'. A law counts once. -/
mutual
def uptoBulk {H : Type} : DataW H → Nat
  | .lit (.string bytes) => bytes.length + 1
  | .lit _ => 1
  | .nil => 1
  | .ptr d => uptoBulk d + 1
  | .slice elems spare => uptoBulkAll elems + uptoBulkAll spare + 1
  | .agg parts => uptoBulkAll parts + 1
  | .iface _ d => uptoBulk d + 1
  | .map entries => uptoBulkEntries entries + 1
  | .held _ => 1
def uptoBulkAll {H : Type} : List (DataW H) → Nat
  | [] => 0
  | d :: r => uptoBulk d + uptoBulkAll r
def uptoBulkEntries {H : Type} : List (Lit × DataW H) → Nat
  | [] => 0
  | x :: r => uptoBulkEntry x + uptoBulkEntries r
def uptoBulkEntry {H : Type} : Lit × DataW H → Nat
  | (.string bytes, d) => bytes.length + uptoBulk d + 1
  | (_, d) => uptoBulk d + 1
 end
def uptoSmall : (H : Type) → List (DataW H) → Bool := fun _ ds => decide (uptoBulkAll ds ≤ 1048576)
def OpenSpec.upto (s : _root_.Go.ChangeSpec) : _root_.Go.OpenSpec := { _root_.Go.OpenSpec.ofChange s with cond := some uptoSmall }

/-- 'mapmakerlaw21.TraceChecks', WHERE WHAT IT READS IS OF BULK AT MOST 1048576: true; the input reads as it did. -/
def traceChecksUptoRow : OpenClaim := { program := "ytlmjciajpjdilaagreat", sum := "c97cdd9e270cc9f13bc37a5f771b0c62f1190eeed81e3fd82ac4de56d0c2f567", func := "mapmaker/mapmakerlaw21.TraceChecks", spec := "traceChecks", unfollowed := true, recurses := true, plainKeys := false, apart := false, narrowed := true }
def TraceChecksUptoSaid : Prop := traceChecksUptoRow.holds Tryz.pinned (OpenSpec.upto traceChecksSpec)

/-- 'mapmakerlaw21.TraceRings', WHERE WHAT IT READS IS OF BULK AT MOST 1048576: true; the input reads as it did. -/
def traceRingsUptoRow : OpenClaim := { program := "ytlmjciajpjdilaagreat", sum := "c97cdd9e270cc9f13bc37a5f771b0c62f1190eeed81e3fd82ac4de56d0c2f567", func := "mapmaker/mapmakerlaw21.TraceRings", spec := "traceRings", unfollowed := true, recurses := true, plainKeys := false, apart := false, narrowed := true }
def TraceRingsUptoSaid : Prop := traceRingsUptoRow.holds Tryz.pinned (OpenSpec.upto traceRingsSpec)

/-- 'mapmakerlaw21.TraceCovers', WHERE WHAT IT READS IS OF BULK AT MOST 1048576: true; the input reads as it did. -/
def traceCoversUptoRow : OpenClaim := { program := "ytlmjciajpjdilaagreat", sum := "c97cdd9e270cc9f13bc37a5f771b0c62f1190eeed81e3fd82ac4de56d0c2f567", func := "mapmaker/mapmakerlaw21.TraceCovers", spec := "traceCovers", unfollowed := true, recurses := true, plainKeys := false, apart := false, narrowed := true }
def TraceCoversUptoSaid : Prop := traceCoversUptoRow.holds Tryz.pinned (OpenSpec.upto traceCoversSpec)

/-- 'mapmakerlaw21.TraceInside', WHERE WHAT IT READS IS OF BULK AT MOST 1048576: true; the input reads as it did. -/
def traceInsideUptoRow : OpenClaim := { program := "ytlmjciajpjdilaagreat", sum := "c97cdd9e270cc9f13bc37a5f771b0c62f1190eeed81e3fd82ac4de56d0c2f567", func := "mapmaker/mapmakerlaw21.TraceInside", spec := "traceInside", unfollowed := true, recurses := true, plainKeys := false, apart := false, narrowed := true }
def TraceInsideUptoSaid : Prop := traceInsideUptoRow.holds Tryz.pinned (OpenSpec.upto traceInsideSpec)

/-- 'mapmakerlaw22.NestTraces', WHERE WHAT IT READS IS OF BULK AT MOST 1048576: true; the input reads as it did. -/
def nestTracesUptoRow : OpenClaim := { program := "ytlmjciajpjdilaagreat", sum := "c97cdd9e270cc9f13bc37a5f771b0c62f1190eeed81e3fd82ac4de56d0c2f567", func := "mapmaker/mapmakerlaw22.NestTraces", spec := "nestTraces", unfollowed := true, recurses := true, plainKeys := false, apart := false, narrowed := true }
def NestTracesUptoSaid : Prop := nestTracesUptoRow.holds Tryz.pinned (OpenSpec.upto nestTracesSpec)

end Rows
end Go.Proofs.YtlmjciajpjdilaaGreat
