/-
  No cell of these rows narrows 'for every input' (looked for: loops, veiled, ifaces, maps, wideKeys, modest, calm, conditions, laid).
  DERIVED. THE GIVEN ROWS OF THIS SEAT. 7 by the template 'for every input the law returns true; each argument reads behind the call as it read before'; 0 by the template 'total and deterministic' (their statements: YtiopopplbehieaaTotals.lean).
  GIVEN WITH THE SEED: the statements are not yours to turn. If you find one false, say at which input.
  Laid BY PROGRAM, IN A SANDBOX (cutbox-rows.mjs): the forced cells as the released guide's own fill.sh prints them over the translation 3ec2a752ab4cbb59… (all of the seat's roots in one cut). By AI agents, Wed Nov 11 2026. No macro, syntax, notation, axiom, sorry.
-/
import Derived.Test.YtiopopplbehieaaChecked
import GoSem.Claim
import GoSem.ClaimJoined
import GoSem.ClaimMapViews
import Derived.JoinedTies
import Derived.KernelRfl
namespace Go.Proofs.Ytiopopplbehieaa
/- THE CELL 'sum', in the pinned program and in every row, IS THE sha256 OF THE DUMP (.gsa) THAT YtiopopplbehieaaProg.lean LOADS. Nothing in Lean hashes anything: it is a label: what it is worth is what the hold of that sum in a sandbox is worth. -/
noncomputable def Try.pinned : Pinned := { name := "ytiopopplbehieaa", sum := "3ec2a752ab4cbb59ec361d17159c653d0e550c45ba46e009e766dc8a8ddb0e0c", checked := Try.checked }
namespace Rows
def none {H : Type} : Left H := { results := [], args := [] }

/-- 'rowlocklaw02.CellsRace': WHATEVER THE INPUT: true; the input reads as it did. -/
def cellsRaceSpec : ChangeSpec := { name := "cellsRace", fn := fun _ => fun
  | [d1, d2, d3] => { results := [.lit (.bool true)], args := [d1, d2, d3] }
  | _ => none }
def cellsRaceRow : OpenClaim := { program := "ytiopopplbehieaa", sum := "3ec2a752ab4cbb59ec361d17159c653d0e550c45ba46e009e766dc8a8ddb0e0c", func := "rowlock/rowlocklaw02.CellsRace", spec := "cellsRace", inPlace := ["math/bits.Add64"], apart := false }
def CellsRaceSaid : Prop := cellsRaceRow.holds Try.pinned (OpenSpec.ofChange cellsRaceSpec)

/-- ITS FALSE NEIGHBOUR: 'it returns false'. Refute it at one input. -/
def cellsRaceWrong : ChangeSpec := { name := "cellsRace", fn := fun _ => fun
  | [d1, d2, d3] => { results := [.lit (.bool false)], args := [d1, d2, d3] }
  | _ => none }
def CellsRaceWrongFalsely : Prop := cellsRaceRow.holds Try.pinned (OpenSpec.ofChange cellsRaceWrong)

/-- 'rowlocklaw02.CellsPlays': WHATEVER THE INPUT: true; the input reads as it did. -/
def cellsPlaysSpec : ChangeSpec := { name := "cellsPlays", fn := fun _ => fun
  | [d1, d2] => { results := [.lit (.bool true)], args := [d1, d2] }
  | _ => none }
def cellsPlaysRow : OpenClaim := { program := "ytiopopplbehieaa", sum := "3ec2a752ab4cbb59ec361d17159c653d0e550c45ba46e009e766dc8a8ddb0e0c", func := "rowlock/rowlocklaw02.CellsPlays", spec := "cellsPlays", inPlace := ["math/bits.Add64"], apart := false }
def CellsPlaysSaid : Prop := cellsPlaysRow.holds Try.pinned (OpenSpec.ofChange cellsPlaysSpec)

/-- ITS FALSE NEIGHBOUR: 'it returns false'. Refute it at one input. -/
def cellsPlaysWrong : ChangeSpec := { name := "cellsPlays", fn := fun _ => fun
  | [d1, d2] => { results := [.lit (.bool false)], args := [d1, d2] }
  | _ => none }
def CellsPlaysWrongFalsely : Prop := cellsPlaysRow.holds Try.pinned (OpenSpec.ofChange cellsPlaysWrong)

/-- 'rowlocklaw02.CellsForks': WHATEVER THE INPUT: true; the input reads as it did. -/
def cellsForksSpec : ChangeSpec := { name := "cellsForks", fn := fun _ => fun
  | [d1, d2, d3] => { results := [.lit (.bool true)], args := [d1, d2, d3] }
  | _ => none }
def cellsForksRow : OpenClaim := { program := "ytiopopplbehieaa", sum := "3ec2a752ab4cbb59ec361d17159c653d0e550c45ba46e009e766dc8a8ddb0e0c", func := "rowlock/rowlocklaw02.CellsForks", spec := "cellsForks", inPlace := ["math/bits.Add64"], apart := false }
def CellsForksSaid : Prop := cellsForksRow.holds Try.pinned (OpenSpec.ofChange cellsForksSpec)

/-- ITS FALSE NEIGHBOUR: 'it returns false'. Refute it at one input. -/
def cellsForksWrong : ChangeSpec := { name := "cellsForks", fn := fun _ => fun
  | [d1, d2, d3] => { results := [.lit (.bool false)], args := [d1, d2, d3] }
  | _ => none }
def CellsForksWrongFalsely : Prop := cellsForksRow.holds Try.pinned (OpenSpec.ofChange cellsForksWrong)

/-- 'rowlocklaw02.CellsNone': WHATEVER THE INPUT: true; the input reads as it did. -/
def cellsNoneSpec : ChangeSpec := { name := "cellsNone", fn := fun _ => fun
  | [d1, d2] => { results := [.lit (.bool true)], args := [d1, d2] }
  | _ => none }
def cellsNoneRow : OpenClaim := { program := "ytiopopplbehieaa", sum := "3ec2a752ab4cbb59ec361d17159c653d0e550c45ba46e009e766dc8a8ddb0e0c", func := "rowlock/rowlocklaw02.CellsNone", spec := "cellsNone", inPlace := ["math/bits.Add64"], apart := false }
def CellsNoneSaid : Prop := cellsNoneRow.holds Try.pinned (OpenSpec.ofChange cellsNoneSpec)

/-- ITS FALSE NEIGHBOUR: 'it returns false'. Refute it at one input. -/
def cellsNoneWrong : ChangeSpec := { name := "cellsNone", fn := fun _ => fun
  | [d1, d2] => { results := [.lit (.bool false)], args := [d1, d2] }
  | _ => none }
def CellsNoneWrongFalsely : Prop := cellsNoneRow.holds Try.pinned (OpenSpec.ofChange cellsNoneWrong)

/-- 'rowlocklaw02.CellsReplay': WHATEVER THE INPUT: true; the input reads as it did. -/
def cellsReplaySpec : ChangeSpec := { name := "cellsReplay", fn := fun _ => fun
  | [d1, d2, d3] => { results := [.lit (.bool true)], args := [d1, d2, d3] }
  | _ => none }
def cellsReplayRow : OpenClaim := { program := "ytiopopplbehieaa", sum := "3ec2a752ab4cbb59ec361d17159c653d0e550c45ba46e009e766dc8a8ddb0e0c", func := "rowlock/rowlocklaw02.CellsReplay", spec := "cellsReplay", inPlace := ["math/bits.Add64"], unfollowed := true, recurses := true, apart := false }
def CellsReplaySaid : Prop := cellsReplayRow.holds Try.pinned (OpenSpec.ofChange cellsReplaySpec)

/-- ITS FALSE NEIGHBOUR: 'it returns false'. Refute it at one input. -/
def cellsReplayWrong : ChangeSpec := { name := "cellsReplay", fn := fun _ => fun
  | [d1, d2, d3] => { results := [.lit (.bool false)], args := [d1, d2, d3] }
  | _ => none }
def CellsReplayWrongFalsely : Prop := cellsReplayRow.holds Try.pinned (OpenSpec.ofChange cellsReplayWrong)

/-- 'rowlocklaw02.CellsLogs': WHATEVER THE INPUT: true; the input reads as it did. -/
def cellsLogsSpec : ChangeSpec := { name := "cellsLogs", fn := fun _ => fun
  | [d1, d2] => { results := [.lit (.bool true)], args := [d1, d2] }
  | _ => none }
def cellsLogsRow : OpenClaim := { program := "ytiopopplbehieaa", sum := "3ec2a752ab4cbb59ec361d17159c653d0e550c45ba46e009e766dc8a8ddb0e0c", func := "rowlock/rowlocklaw02.CellsLogs", spec := "cellsLogs", inPlace := ["math/bits.Add64"], apart := false }
def CellsLogsSaid : Prop := cellsLogsRow.holds Try.pinned (OpenSpec.ofChange cellsLogsSpec)

/-- ITS FALSE NEIGHBOUR: 'it returns false'. Refute it at one input. -/
def cellsLogsWrong : ChangeSpec := { name := "cellsLogs", fn := fun _ => fun
  | [d1, d2] => { results := [.lit (.bool false)], args := [d1, d2] }
  | _ => none }
def CellsLogsWrongFalsely : Prop := cellsLogsRow.holds Try.pinned (OpenSpec.ofChange cellsLogsWrong)

/-- 'rowlocktop.TopCounter': WHATEVER THE INPUT: true; the input reads as it did. -/
def topCounterSpec : ChangeSpec := { name := "topCounter", fn := fun _ => fun
  | [d1, d2] => { results := [.lit (.bool true)], args := [d1, d2] }
  | _ => none }
def topCounterRow : OpenClaim := { program := "ytiopopplbehieaa", sum := "3ec2a752ab4cbb59ec361d17159c653d0e550c45ba46e009e766dc8a8ddb0e0c", func := "rowlock/rowlocktop.TopCounter", spec := "topCounter", inPlace := ["math/bits.Add64"], apart := false }
def TopCounterSaid : Prop := topCounterRow.holds Try.pinned (OpenSpec.ofChange topCounterSpec)

/-- ITS FALSE NEIGHBOUR: 'it returns false'. Refute it at one input. -/
def topCounterWrong : ChangeSpec := { name := "topCounter", fn := fun _ => fun
  | [d1, d2] => { results := [.lit (.bool false)], args := [d1, d2] }
  | _ => none }
def TopCounterWrongFalsely : Prop := topCounterRow.holds Try.pinned (OpenSpec.ofChange topCounterWrong)

/- THE SECOND FORM. 'bulk': how many values and letters a reading holds, each counted each time it is reached (what is shared counts as often as it is met; a slice's spare places count too). A statement '..UptoSaid' is the law's where the arguments, and the package variables that the reading takes, are together of bulk at most 1048576: NARROWER than '..Said'. Prove '..Said' where nothing that the law and all that it calls make is longer than what came in: it says more and counts as full. Else prove '..UptoSaid'. A law counts once. -/
mutual
def uptoBulk {H : Type} : DataW H → Nat
  | .lit (.string bytes) => bytes.length + 1
  | .lit _ => 1
  | .nil => 1
  | .ptr d => uptoBulk d + 1
  | .slice elems spare => uptoBulkAll elems + uptoBulkAll spare + 1
  | .agg parts => uptoBulkAll parts + 1
  | .iface _ d => uptoBulk d + 1
  | .map entries => uptoBulkEntries entries + 1
  | .held _ => 1
def uptoBulkAll {H : Type} : List (DataW H) → Nat
  | [] => 0
  | d :: r => uptoBulk d + uptoBulkAll r
def uptoBulkEntries {H : Type} : List (Lit × DataW H) → Nat
  | [] => 0
  | x :: r => uptoBulkEntry x + uptoBulkEntries r
def uptoBulkEntry {H : Type} : Lit × DataW H → Nat
  | (.string bytes, d) => bytes.length + uptoBulk d + 1
  | (_, d) => uptoBulk d + 1
 end
def uptoSmall : (H : Type) → List (DataW H) → Bool := fun _ ds => decide (uptoBulkAll ds ≤ 1048576)
def OpenSpec.upto (s : _root_.Go.ChangeSpec) : _root_.Go.OpenSpec := { _root_.Go.OpenSpec.ofChange s with cond := some uptoSmall }

/-- 'rowlocklaw02.CellsRace', WHERE WHAT IT READS IS OF BULK AT MOST 1048576: true; the input reads as it did. -/
def cellsRaceUptoRow : OpenClaim := { program := "ytiopopplbehieaa", sum := "3ec2a752ab4cbb59ec361d17159c653d0e550c45ba46e009e766dc8a8ddb0e0c", func := "rowlock/rowlocklaw02.CellsRace", spec := "cellsRace", inPlace := ["math/bits.Add64"], apart := false, narrowed := true }
def CellsRaceUptoSaid : Prop := cellsRaceUptoRow.holds Try.pinned (OpenSpec.upto cellsRaceSpec)

/-- 'rowlocklaw02.CellsPlays', WHERE WHAT IT READS IS OF BULK AT MOST 1048576: true; the input reads as it did. -/
def cellsPlaysUptoRow : OpenClaim := { program := "ytiopopplbehieaa", sum := "3ec2a752ab4cbb59ec361d17159c653d0e550c45ba46e009e766dc8a8ddb0e0c", func := "rowlock/rowlocklaw02.CellsPlays", spec := "cellsPlays", inPlace := ["math/bits.Add64"], apart := false, narrowed := true }
def CellsPlaysUptoSaid : Prop := cellsPlaysUptoRow.holds Try.pinned (OpenSpec.upto cellsPlaysSpec)

/-- 'rowlocklaw02.CellsForks', WHERE WHAT IT READS IS OF BULK AT MOST 1048576: true; the input reads as it did. -/
def cellsForksUptoRow : OpenClaim := { program := "ytiopopplbehieaa", sum := "3ec2a752ab4cbb59ec361d17159c653d0e550c45ba46e009e766dc8a8ddb0e0c", func := "rowlock/rowlocklaw02.CellsForks", spec := "cellsForks", inPlace := ["math/bits.Add64"], apart := false, narrowed := true }
def CellsForksUptoSaid : Prop := cellsForksUptoRow.holds Try.pinned (OpenSpec.upto cellsForksSpec)

/-- 'rowlocklaw02.CellsNone', WHERE WHAT IT READS IS OF BULK AT MOST 1048576: true; the input reads as it did. -/
def cellsNoneUptoRow : OpenClaim := { program := "ytiopopplbehieaa", sum := "3ec2a752ab4cbb59ec361d17159c653d0e550c45ba46e009e766dc8a8ddb0e0c", func := "rowlock/rowlocklaw02.CellsNone", spec := "cellsNone", inPlace := ["math/bits.Add64"], apart := false, narrowed := true }
def CellsNoneUptoSaid : Prop := cellsNoneUptoRow.holds Try.pinned (OpenSpec.upto cellsNoneSpec)

/-- 'rowlocklaw02.CellsReplay', WHERE WHAT IT READS IS OF BULK AT MOST 1048576: true; the input reads as it did. -/
def cellsReplayUptoRow : OpenClaim := { program := "ytiopopplbehieaa", sum := "3ec2a752ab4cbb59ec361d17159c653d0e550c45ba46e009e766dc8a8ddb0e0c", func := "rowlock/rowlocklaw02.CellsReplay", spec := "cellsReplay", inPlace := ["math/bits.Add64"], unfollowed := true, recurses := true, apart := false, narrowed := true }
def CellsReplayUptoSaid : Prop := cellsReplayUptoRow.holds Try.pinned (OpenSpec.upto cellsReplaySpec)

/-- 'rowlocklaw02.CellsLogs', WHERE WHAT IT READS IS OF BULK AT MOST 1048576: true; the input reads as it did. -/
def cellsLogsUptoRow : OpenClaim := { program := "ytiopopplbehieaa", sum := "3ec2a752ab4cbb59ec361d17159c653d0e550c45ba46e009e766dc8a8ddb0e0c", func := "rowlock/rowlocklaw02.CellsLogs", spec := "cellsLogs", inPlace := ["math/bits.Add64"], apart := false, narrowed := true }
def CellsLogsUptoSaid : Prop := cellsLogsUptoRow.holds Try.pinned (OpenSpec.upto cellsLogsSpec)

/-- 'rowlocktop.TopCounter', WHERE WHAT IT READS IS OF BULK AT MOST 1048576: true; the input reads as it did. -/
def topCounterUptoRow : OpenClaim := { program := "ytiopopplbehieaa", sum := "3ec2a752ab4cbb59ec361d17159c653d0e550c45ba46e009e766dc8a8ddb0e0c", func := "rowlock/rowlocktop.TopCounter", spec := "topCounter", inPlace := ["math/bits.Add64"], apart := false, narrowed := true }
def TopCounterUptoSaid : Prop := topCounterUptoRow.holds Try.pinned (OpenSpec.upto topCounterSpec)

end Rows
end Go.Proofs.Ytiopopplbehieaa
