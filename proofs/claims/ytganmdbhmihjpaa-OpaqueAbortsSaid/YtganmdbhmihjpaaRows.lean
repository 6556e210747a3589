/-
  No cell of these rows narrows 'for every input' (looked for: loops, veiled, ifaces, maps, wideKeys, modest, calm, conditions, laid).
  DERIVED. THE GIVEN ROWS OF THIS SEAT. 4 by the template 'for every input the law returns true; each argument reads behind the call as it read before'; 0 by the template 'total and deterministic' (their statements: YtganmdbhmihjpaaTotals.lean).
  GIVEN WITH THE SEED: the statements are not yours to turn. If you find one false, say at which input.
  Laid BY PROGRAM, IN A SANDBOX (cutbox-rows.mjs): the forced cells as the released guide's own fill.sh prints them over the translation 0e5a856580e251a0… (all of the seat's roots in one cut). By AI agents, Wed Nov 11 2026. No macro, syntax, notation, axiom, sorry.
-/
import Derived.Test.YtganmdbhmihjpaaChecked
import GoSem.Claim
import GoSem.ClaimJoined
import GoSem.ClaimMapViews
import Derived.JoinedTies
import Derived.KernelRfl
namespace Go.Proofs.Ytganmdbhmihjpaa
/- THE CELL 'sum', in the pinned program and in every row, IS THE sha256 OF THE DUMP (.gsa) THAT YtganmdbhmihjpaaProg.lean LOADS. Nothing in Lean hashes anything: it is a label: what it is worth is what the hold of that sum in a sandbox is worth. -/
noncomputable def Try.pinned : Pinned := { name := "ytganmdbhmihjpaa", sum := "0e5a856580e251a0db7c0f575c39b928b1e715874f59e5fa526dad115261147f", checked := Try.checked }
namespace Rows
def none {H : Type} : Left H := { results := [], args := [] }

/-- 'rowlocklaw09.OpaqueIs': WHATEVER THE INPUT: true; the input reads as it did. -/
def opaqueIsSpec : ChangeSpec := { name := "opaqueIs", fn := fun _ => fun
  | [d1, d2, d3] => { results := [.lit (.bool true)], args := [d1, d2, d3] }
  | _ => none }
def opaqueIsRow : OpenClaim := { program := "ytganmdbhmihjpaa", sum := "0e5a856580e251a0db7c0f575c39b928b1e715874f59e5fa526dad115261147f", func := "rowlock/rowlocklaw09.OpaqueIs", spec := "opaqueIs", unfollowed := true, recurses := true, apart := false }
def OpaqueIsSaid : Prop := opaqueIsRow.holds Try.pinned (OpenSpec.ofChange opaqueIsSpec)

/-- ITS FALSE NEIGHBOUR: 'it returns false'. Refute it at one input. -/
def opaqueIsWrong : ChangeSpec := { name := "opaqueIs", fn := fun _ => fun
  | [d1, d2, d3] => { results := [.lit (.bool false)], args := [d1, d2, d3] }
  | _ => none }
def OpaqueIsWrongFalsely : Prop := opaqueIsRow.holds Try.pinned (OpenSpec.ofChange opaqueIsWrong)

/-- 'rowlocklaw09.OpaqueOne': WHATEVER THE INPUT: true; the input reads as it did. -/
def opaqueOneSpec : ChangeSpec := { name := "opaqueOne", fn := fun _ => fun
  | [d1, d2, d3] => { results := [.lit (.bool true)], args := [d1, d2, d3] }
  | _ => none }
def opaqueOneRow : OpenClaim := { program := "ytganmdbhmihjpaa", sum := "0e5a856580e251a0db7c0f575c39b928b1e715874f59e5fa526dad115261147f", func := "rowlock/rowlocklaw09.OpaqueOne", spec := "opaqueOne", inPlace := ["math.Float64frombits"], unfollowed := true, recurses := true, apart := false }
def OpaqueOneSaid : Prop := opaqueOneRow.holds Try.pinned (OpenSpec.ofChange opaqueOneSpec)

/-- ITS FALSE NEIGHBOUR: 'it returns false'. Refute it at one input. -/
def opaqueOneWrong : ChangeSpec := { name := "opaqueOne", fn := fun _ => fun
  | [d1, d2, d3] => { results := [.lit (.bool false)], args := [d1, d2, d3] }
  | _ => none }
def OpaqueOneWrongFalsely : Prop := opaqueOneRow.holds Try.pinned (OpenSpec.ofChange opaqueOneWrong)

/-- 'rowlocklaw09.OpaqueSerial': WHATEVER THE INPUT: true; the input reads as it did. -/
def opaqueSerialSpec : ChangeSpec := { name := "opaqueSerial", fn := fun _ => fun
  | [d1, d2] => { results := [.lit (.bool true)], args := [d1, d2] }
  | _ => none }
def opaqueSerialRow : OpenClaim := { program := "ytganmdbhmihjpaa", sum := "0e5a856580e251a0db7c0f575c39b928b1e715874f59e5fa526dad115261147f", func := "rowlock/rowlocklaw09.OpaqueSerial", spec := "opaqueSerial", unfollowed := true, recurses := true, apart := false }
def OpaqueSerialSaid : Prop := opaqueSerialRow.holds Try.pinned (OpenSpec.ofChange opaqueSerialSpec)

/-- ITS FALSE NEIGHBOUR: 'it returns false'. Refute it at one input. -/
def opaqueSerialWrong : ChangeSpec := { name := "opaqueSerial", fn := fun _ => fun
  | [d1, d2] => { results := [.lit (.bool false)], args := [d1, d2] }
  | _ => none }
def OpaqueSerialWrongFalsely : Prop := opaqueSerialRow.holds Try.pinned (OpenSpec.ofChange opaqueSerialWrong)

/-- 'rowlocklaw09.OpaqueAborts': WHATEVER THE INPUT: true; the input reads as it did. -/
def opaqueAbortsSpec : ChangeSpec := { name := "opaqueAborts", fn := fun _ => fun
  | [d1, d2, d3] => { results := [.lit (.bool true)], args := [d1, d2, d3] }
  | _ => none }
def opaqueAbortsRow : OpenClaim := { program := "ytganmdbhmihjpaa", sum := "0e5a856580e251a0db7c0f575c39b928b1e715874f59e5fa526dad115261147f", func := "rowlock/rowlocklaw09.OpaqueAborts", spec := "opaqueAborts", unfollowed := true, recurses := true, apart := false }
def OpaqueAbortsSaid : Prop := opaqueAbortsRow.holds Try.pinned (OpenSpec.ofChange opaqueAbortsSpec)

/-- ITS FALSE NEIGHBOUR: 'it returns false'. Refute it at one input. -/
def opaqueAbortsWrong : ChangeSpec := { name := "opaqueAborts", fn := fun _ => fun
  | [d1, d2, d3] => { results := [.lit (.bool false)], args := [d1, d2, d3] }
  | _ => none }
def OpaqueAbortsWrongFalsely : Prop := opaqueAbortsRow.holds Try.pinned (OpenSpec.ofChange opaqueAbortsWrong)

/- THE SECOND FORM. 'bulk': how many values and letters a reading holds, each counted each time it is reached (what is shared counts as often as it is met; a slice's spare places count too). A statement '..UptoSaid' is the law's where the arguments, and the package variables that the reading takes, are together of bulk at most 1048576: NARROWER than '..Said'. Prove '..Said' where nothing that the law and all that it calls make is longer than what came in: it says more and counts as full. Else prove '..UptoSaid'. A law counts once. -/
mutual
def uptoBulk {H : Type} : DataW H → Nat
  | .lit (.string bytes) => bytes.length + 1
  | .lit _ => 1
  | .nil => 1
  | .ptr d => uptoBulk d + 1
  | .slice elems spare => uptoBulkAll elems + uptoBulkAll spare + 1
  | .agg parts => uptoBulkAll parts + 1
  | .iface _ d => uptoBulk d + 1
  | .map entries => uptoBulkEntries entries + 1
  | .held _ => 1
def uptoBulkAll {H : Type} : List (DataW H) → Nat
  | [] => 0
  | d :: r => uptoBulk d + uptoBulkAll r
def uptoBulkEntries {H : Type} : List (Lit × DataW H) → Nat
  | [] => 0
  | x :: r => uptoBulkEntry x + uptoBulkEntries r
def uptoBulkEntry {H : Type} : Lit × DataW H → Nat
  | (.string bytes, d) => bytes.length + uptoBulk d + 1
  | (_, d) => uptoBulk d + 1
 end
def uptoSmall : (H : Type) → List (DataW H) → Bool := fun _ ds => decide (uptoBulkAll ds ≤ 1048576)
def OpenSpec.upto (s : _root_.Go.ChangeSpec) : _root_.Go.OpenSpec := { _root_.Go.OpenSpec.ofChange s with cond := some uptoSmall }

/-- 'rowlocklaw09.OpaqueIs', WHERE WHAT IT READS IS OF BULK AT MOST 1048576: true; the input reads as it did. -/
def opaqueIsUptoRow : OpenClaim := { program := "ytganmdbhmihjpaa", sum := "0e5a856580e251a0db7c0f575c39b928b1e715874f59e5fa526dad115261147f", func := "rowlock/rowlocklaw09.OpaqueIs", spec := "opaqueIs", unfollowed := true, recurses := true, apart := false, narrowed := true }
def OpaqueIsUptoSaid : Prop := opaqueIsUptoRow.holds Try.pinned (OpenSpec.upto opaqueIsSpec)

/-- 'rowlocklaw09.OpaqueOne', WHERE WHAT IT READS IS OF BULK AT MOST 1048576: true; the input reads as it did. -/
def opaqueOneUptoRow : OpenClaim := { program := "ytganmdbhmihjpaa", sum := "0e5a856580e251a0db7c0f575c39b928b1e715874f59e5fa526dad115261147f", func := "rowlock/rowlocklaw09.OpaqueOne", spec := "opaqueOne", inPlace := ["math.Float64frombits"], unfollowed := true, recurses := true, apart := false, narrowed := true }
def OpaqueOneUptoSaid : Prop := opaqueOneUptoRow.holds Try.pinned (OpenSpec.upto opaqueOneSpec)

/-- 'rowlocklaw09.OpaqueSerial', WHERE WHAT IT READS IS OF BULK AT MOST 1048576: true; the input reads as it did. -/
def opaqueSerialUptoRow : OpenClaim := { program := "ytganmdbhmihjpaa", sum := "0e5a856580e251a0db7c0f575c39b928b1e715874f59e5fa526dad115261147f", func := "rowlock/rowlocklaw09.OpaqueSerial", spec := "opaqueSerial", unfollowed := true, recurses := true, apart := false, narrowed := true }
def OpaqueSerialUptoSaid : Prop := opaqueSerialUptoRow.holds Try.pinned (OpenSpec.upto opaqueSerialSpec)

/-- 'rowlocklaw09.OpaqueAborts', WHERE WHAT IT READS IS OF BULK AT MOST 1048576: true; the input reads as it did. -/
def opaqueAbortsUptoRow : OpenClaim := { program := "ytganmdbhmihjpaa", sum := "0e5a856580e251a0db7c0f575c39b928b1e715874f59e5fa526dad115261147f", func := "rowlock/rowlocklaw09.OpaqueAborts", spec := "opaqueAborts", unfollowed := true, recurses := true, apart := false, narrowed := true }
def OpaqueAbortsUptoSaid : Prop := opaqueAbortsUptoRow.holds Try.pinned (OpenSpec.upto opaqueAbortsSpec)

end Rows
end Go.Proofs.Ytganmdbhmihjpaa
