/-
  No cell of these rows narrows 'for every input' (looked for: loops, veiled, ifaces, maps, wideKeys, modest, calm, conditions, laid).
  DERIVED. THE GIVEN ROWS OF THIS SEAT. 7 by the template 'for every input the law returns true; each argument reads behind the call as it read before'; 0 by the template 'total and deterministic' (their statements: YtddcpehncbcliaaTotals.lean).
  GIVEN WITH THE SEED: the statements are not yours to turn. If you find one false, say at which input.
  Laid BY PROGRAM, IN A SANDBOX (cutbox-rows.mjs): the forced cells as the released guide's own fill.sh prints them over the translation 7ac814f177bb05f2… (all of the seat's roots in one cut). By AI agents, Wed Nov 11 2026. No macro, syntax, notation, axiom, sorry.
-/
import Derived.Test.YtddcpehncbcliaaChecked
import GoSem.Claim
import GoSem.ClaimJoined
import GoSem.ClaimMapViews
import Derived.JoinedTies
import Derived.KernelRfl
namespace Go.Proofs.Ytddcpehncbcliaa
/- THE CELL 'sum', in the pinned program and in every row, IS THE sha256 OF THE DUMP (.gsa) THAT YtddcpehncbcliaaProg.lean LOADS. Nothing in Lean hashes anything: it is a label: what it is worth is what the hold of that sum in a sandbox is worth. -/
noncomputable def Try.pinned : Pinned := { name := "ytddcpehncbcliaa", sum := "7ac814f177bb05f2fef156b8f611cbc03003120fa9484b87c983e809bccb7f75", checked := Try.checked }
namespace Rows
def none {H : Type} : Left H := { results := [], args := [] }

/-- 'rowlocklaw13.WaitsSleeps': WHATEVER THE INPUT: true; the input reads as it did. -/
def waitsSleepsSpec : ChangeSpec := { name := "waitsSleeps", fn := fun _ => fun
  | [d] => { results := [.lit (.bool true)], args := [d] }
  | _ => none }
def waitsSleepsRow : OpenClaim := { program := "ytddcpehncbcliaa", sum := "7ac814f177bb05f2fef156b8f611cbc03003120fa9484b87c983e809bccb7f75", func := "rowlock/rowlocklaw13.WaitsSleeps", spec := "waitsSleeps", unfollowed := true, recurses := true, apart := false }
def WaitsSleepsSaid : Prop := waitsSleepsRow.holds Try.pinned (OpenSpec.ofChange waitsSleepsSpec)

/-- ITS FALSE NEIGHBOUR: 'it returns false'. Refute it at one input. -/
def waitsSleepsWrong : ChangeSpec := { name := "waitsSleeps", fn := fun _ => fun
  | [d] => { results := [.lit (.bool false)], args := [d] }
  | _ => none }
def WaitsSleepsWrongFalsely : Prop := waitsSleepsRow.holds Try.pinned (OpenSpec.ofChange waitsSleepsWrong)

/-- 'rowlocklaw13.WaitsPlays': WHATEVER THE INPUT: true; the input reads as it did. -/
def waitsPlaysSpec : ChangeSpec := { name := "waitsPlays", fn := fun _ => fun
  | [d] => { results := [.lit (.bool true)], args := [d] }
  | _ => none }
def waitsPlaysRow : OpenClaim := { program := "ytddcpehncbcliaa", sum := "7ac814f177bb05f2fef156b8f611cbc03003120fa9484b87c983e809bccb7f75", func := "rowlock/rowlocklaw13.WaitsPlays", spec := "waitsPlays", unfollowed := true, recurses := true, apart := false }
def WaitsPlaysSaid : Prop := waitsPlaysRow.holds Try.pinned (OpenSpec.ofChange waitsPlaysSpec)

/-- ITS FALSE NEIGHBOUR: 'it returns false'. Refute it at one input. -/
def waitsPlaysWrong : ChangeSpec := { name := "waitsPlays", fn := fun _ => fun
  | [d] => { results := [.lit (.bool false)], args := [d] }
  | _ => none }
def WaitsPlaysWrongFalsely : Prop := waitsPlaysRow.holds Try.pinned (OpenSpec.ofChange waitsPlaysWrong)

/-- 'rowlocklaw13.WaitsWakes': WHATEVER THE INPUT: true; the input reads as it did. -/
def waitsWakesSpec : ChangeSpec := { name := "waitsWakes", fn := fun _ => fun
  | [d1, d2] => { results := [.lit (.bool true)], args := [d1, d2] }
  | _ => none }
def waitsWakesRow : OpenClaim := { program := "ytddcpehncbcliaa", sum := "7ac814f177bb05f2fef156b8f611cbc03003120fa9484b87c983e809bccb7f75", func := "rowlock/rowlocklaw13.WaitsWakes", spec := "waitsWakes", unfollowed := true, recurses := true, apart := false }
def WaitsWakesSaid : Prop := waitsWakesRow.holds Try.pinned (OpenSpec.ofChange waitsWakesSpec)

/-- ITS FALSE NEIGHBOUR: 'it returns false'. Refute it at one input. -/
def waitsWakesWrong : ChangeSpec := { name := "waitsWakes", fn := fun _ => fun
  | [d1, d2] => { results := [.lit (.bool false)], args := [d1, d2] }
  | _ => none }
def WaitsWakesWrongFalsely : Prop := waitsWakesRow.holds Try.pinned (OpenSpec.ofChange waitsWakesWrong)

/-- 'rowlocklaw13.WaitsRegisters': WHATEVER THE INPUT: true; the input reads as it did. -/
def waitsRegistersSpec : ChangeSpec := { name := "waitsRegisters", fn := fun _ => fun
  | [d1, d2, d3] => { results := [.lit (.bool true)], args := [d1, d2, d3] }
  | _ => none }
def waitsRegistersRow : OpenClaim := { program := "ytddcpehncbcliaa", sum := "7ac814f177bb05f2fef156b8f611cbc03003120fa9484b87c983e809bccb7f75", func := "rowlock/rowlocklaw13.WaitsRegisters", spec := "waitsRegisters", unfollowed := true, recurses := true, apart := false }
def WaitsRegistersSaid : Prop := waitsRegistersRow.holds Try.pinned (OpenSpec.ofChange waitsRegistersSpec)

/-- ITS FALSE NEIGHBOUR: 'it returns false'. Refute it at one input. -/
def waitsRegistersWrong : ChangeSpec := { name := "waitsRegisters", fn := fun _ => fun
  | [d1, d2, d3] => { results := [.lit (.bool false)], args := [d1, d2, d3] }
  | _ => none }
def WaitsRegistersWrongFalsely : Prop := waitsRegistersRow.holds Try.pinned (OpenSpec.ofChange waitsRegistersWrong)

/-- 'rowlocklaw13.WaitsForks': WHATEVER THE INPUT: true; the input reads as it did. -/
def waitsForksSpec : ChangeSpec := { name := "waitsForks", fn := fun _ => fun
  | [d1, d2] => { results := [.lit (.bool true)], args := [d1, d2] }
  | _ => none }
def waitsForksRow : OpenClaim := { program := "ytddcpehncbcliaa", sum := "7ac814f177bb05f2fef156b8f611cbc03003120fa9484b87c983e809bccb7f75", func := "rowlock/rowlocklaw13.WaitsForks", spec := "waitsForks", inPlace := ["maps.clone"], unfollowed := true, recurses := true, apart := false }
def WaitsForksSaid : Prop := waitsForksRow.holds Try.pinned (OpenSpec.ofChange waitsForksSpec)

/-- ITS FALSE NEIGHBOUR: 'it returns false'. Refute it at one input. -/
def waitsForksWrong : ChangeSpec := { name := "waitsForks", fn := fun _ => fun
  | [d1, d2] => { results := [.lit (.bool false)], args := [d1, d2] }
  | _ => none }
def WaitsForksWrongFalsely : Prop := waitsForksRow.holds Try.pinned (OpenSpec.ofChange waitsForksWrong)

/-- 'rowlocklaw13.WaitsNone': WHATEVER THE INPUT: true; the input reads as it did. -/
def waitsNoneSpec : ChangeSpec := { name := "waitsNone", fn := fun _ => fun
  | [d1, d2] => { results := [.lit (.bool true)], args := [d1, d2] }
  | _ => none }
def waitsNoneRow : OpenClaim := { program := "ytddcpehncbcliaa", sum := "7ac814f177bb05f2fef156b8f611cbc03003120fa9484b87c983e809bccb7f75", func := "rowlock/rowlocklaw13.WaitsNone", spec := "waitsNone", inPlace := ["maps.clone"], unfollowed := true, recurses := true, apart := false }
def WaitsNoneSaid : Prop := waitsNoneRow.holds Try.pinned (OpenSpec.ofChange waitsNoneSpec)

/-- ITS FALSE NEIGHBOUR: 'it returns false'. Refute it at one input. -/
def waitsNoneWrong : ChangeSpec := { name := "waitsNone", fn := fun _ => fun
  | [d1, d2] => { results := [.lit (.bool false)], args := [d1, d2] }
  | _ => none }
def WaitsNoneWrongFalsely : Prop := waitsNoneRow.holds Try.pinned (OpenSpec.ofChange waitsNoneWrong)

/-- 'rowlocktop.TopAwake': WHATEVER THE INPUT: true; the input reads as it did. -/
def topAwakeSpec : ChangeSpec := { name := "topAwake", fn := fun _ => fun
  | [d1, d2, d3] => { results := [.lit (.bool true)], args := [d1, d2, d3] }
  | _ => none }
def topAwakeRow : OpenClaim := { program := "ytddcpehncbcliaa", sum := "7ac814f177bb05f2fef156b8f611cbc03003120fa9484b87c983e809bccb7f75", func := "rowlock/rowlocktop.TopAwake", spec := "topAwake", unfollowed := true, recurses := true, apart := false }
def TopAwakeSaid : Prop := topAwakeRow.holds Try.pinned (OpenSpec.ofChange topAwakeSpec)

/-- ITS FALSE NEIGHBOUR: 'it returns false'. Refute it at one input. -/
def topAwakeWrong : ChangeSpec := { name := "topAwake", fn := fun _ => fun
  | [d1, d2, d3] => { results := [.lit (.bool false)], args := [d1, d2, d3] }
  | _ => none }
def TopAwakeWrongFalsely : Prop := topAwakeRow.holds Try.pinned (OpenSpec.ofChange topAwakeWrong)

/- THE SECOND FORM. 'bulk': how many values and letters a reading holds, each counted each time it is reached (what is shared counts as often as it is met; a slice's spare places count too). A statement '..UptoSaid' is the law's where the arguments, and the package variables that the reading takes, are together of bulk at most 1048576: NARROWER than '..Said'. Prove '..Said' where nothing that the law and all that it calls make is longer than what came in: it says more and counts as full. Else prove '..UptoSaid'. A law counts once. -/
mutual
def uptoBulk {H : Type} : DataW H → Nat
  | .lit (.string bytes) => bytes.length + 1
  | .lit _ => 1
  | .nil => 1
  | .ptr d => uptoBulk d + 1
  | .slice elems spare => uptoBulkAll elems + uptoBulkAll spare + 1
  | .agg parts => uptoBulkAll parts + 1
  | .iface _ d => uptoBulk d + 1
  | .map entries => uptoBulkEntries entries + 1
  | .held _ => 1
def uptoBulkAll {H : Type} : List (DataW H) → Nat
  | [] => 0
  | d :: r => uptoBulk d + uptoBulkAll r
def uptoBulkEntries {H : Type} : List (Lit × DataW H) → Nat
  | [] => 0
  | x :: r => uptoBulkEntry x + uptoBulkEntries r
def uptoBulkEntry {H : Type} : Lit × DataW H → Nat
  | (.string bytes, d) => bytes.length + uptoBulk d + 1
  | (_, d) => uptoBulk d + 1
 end
def uptoSmall : (H : Type) → List (DataW H) → Bool := fun _ ds => decide (uptoBulkAll ds ≤ 1048576)
def OpenSpec.upto (s : _root_.Go.ChangeSpec) : _root_.Go.OpenSpec := { _root_.Go.OpenSpec.ofChange s with cond := some uptoSmall }

/-- 'rowlocklaw13.WaitsSleeps', WHERE WHAT IT READS IS OF BULK AT MOST 1048576: true; the input reads as it did. -/
def waitsSleepsUptoRow : OpenClaim := { program := "ytddcpehncbcliaa", sum := "7ac814f177bb05f2fef156b8f611cbc03003120fa9484b87c983e809bccb7f75", func := "rowlock/rowlocklaw13.WaitsSleeps", spec := "waitsSleeps", unfollowed := true, recurses := true, apart := false, narrowed := true }
def WaitsSleepsUptoSaid : Prop := waitsSleepsUptoRow.holds Try.pinned (OpenSpec.upto waitsSleepsSpec)

/-- 'rowlocklaw13.WaitsPlays', WHERE WHAT IT READS IS OF BULK AT MOST 1048576: true; the input reads as it did. -/
def waitsPlaysUptoRow : OpenClaim := { program := "ytddcpehncbcliaa", sum := "7ac814f177bb05f2fef156b8f611cbc03003120fa9484b87c983e809bccb7f75", func := "rowlock/rowlocklaw13.WaitsPlays", spec := "waitsPlays", unfollowed := true, recurses := true, apart := false, narrowed := true }
def WaitsPlaysUptoSaid : Prop := waitsPlaysUptoRow.holds Try.pinned (OpenSpec.upto waitsPlaysSpec)

/-- 'rowlocklaw13.WaitsWakes', WHERE WHAT IT READS IS OF BULK AT MOST 1048576: true; the input reads as it did. -/
def waitsWakesUptoRow : OpenClaim := { program := "ytddcpehncbcliaa", sum := "7ac814f177bb05f2fef156b8f611cbc03003120fa9484b87c983e809bccb7f75", func := "rowlock/rowlocklaw13.WaitsWakes", spec := "waitsWakes", unfollowed := true, recurses := true, apart := false, narrowed := true }
def WaitsWakesUptoSaid : Prop := waitsWakesUptoRow.holds Try.pinned (OpenSpec.upto waitsWakesSpec)

/-- 'rowlocklaw13.WaitsRegisters', WHERE WHAT IT READS IS OF BULK AT MOST 1048576: true; the input reads as it did. -/
def waitsRegistersUptoRow : OpenClaim := { program := "ytddcpehncbcliaa", sum := "7ac814f177bb05f2fef156b8f611cbc03003120fa9484b87c983e809bccb7f75", func := "rowlock/rowlocklaw13.WaitsRegisters", spec := "waitsRegisters", unfollowed := true, recurses := true, apart := false, narrowed := true }
def WaitsRegistersUptoSaid : Prop := waitsRegistersUptoRow.holds Try.pinned (OpenSpec.upto waitsRegistersSpec)

/-- 'rowlocklaw13.WaitsForks', WHERE WHAT IT READS IS OF BULK AT MOST 1048576: true; the input reads as it did. -/
def waitsForksUptoRow : OpenClaim := { program := "ytddcpehncbcliaa", sum := "7ac814f177bb05f2fef156b8f611cbc03003120fa9484b87c983e809bccb7f75", func := "rowlock/rowlocklaw13.WaitsForks", spec := "waitsForks", inPlace := ["maps.clone"], unfollowed := true, recurses := true, apart := false, narrowed := true }
def WaitsForksUptoSaid : Prop := waitsForksUptoRow.holds Try.pinned (OpenSpec.upto waitsForksSpec)

/-- 'rowlocklaw13.WaitsNone', WHERE WHAT IT READS IS OF BULK AT MOST 1048576: true; the input reads as it did. -/
def waitsNoneUptoRow : OpenClaim := { program := "ytddcpehncbcliaa", sum := "7ac814f177bb05f2fef156b8f611cbc03003120fa9484b87c983e809bccb7f75", func := "rowlock/rowlocklaw13.WaitsNone", spec := "waitsNone", inPlace := ["maps.clone"], unfollowed := true, recurses := true, apart := false, narrowed := true }
def WaitsNoneUptoSaid : Prop := waitsNoneUptoRow.holds Try.pinned (OpenSpec.upto waitsNoneSpec)

/-- 'rowlocktop.TopAwake', WHERE WHAT IT READS IS OF BULK AT MOST 1048576: true; the input reads as it did. -/
def topAwakeUptoRow : OpenClaim := { program := "ytddcpehncbcliaa", sum := "7ac814f177bb05f2fef156b8f611cbc03003120fa9484b87c983e809bccb7f75", func := "rowlock/rowlocktop.TopAwake", spec := "topAwake", unfollowed := true, recurses := true, apart := false, narrowed := true }
def TopAwakeUptoSaid : Prop := topAwakeUptoRow.holds Try.pinned (OpenSpec.upto topAwakeSpec)

end Rows
end Go.Proofs.Ytddcpehncbcliaa
