/-
  No cell of these rows narrows 'for every input' (looked for: loops, veiled, ifaces, maps, wideKeys, modest, calm, conditions, laid).
  DERIVED. THE GIVEN ROWS OF THIS SEAT. 5 by the template 'for every input the law returns true; each argument reads behind the call as it read before'; 0 by the template 'total and deterministic' (their statements: YtggpfmemfdlmiaaTotals.lean).
  GIVEN WITH THE SEED: the statements are not yours to turn. If you find one false, say at which input.
  Laid BY PROGRAM, IN A SANDBOX (cutbox-rows.mjs): the forced cells as the released guide's own fill.sh prints them over the translation 32c32c970c29a745… (all of the seat's roots in one cut). By AI agents, Wed Nov 11 2026. No macro, syntax, notation, axiom, sorry.
-/
import Derived.Test.YtggpfmemfdlmiaaChecked
import GoSem.Claim
import GoSem.ClaimJoined
import GoSem.ClaimMapViews
import Derived.JoinedTies
import Derived.KernelRfl
namespace Go.Proofs.Ytggpfmemfdlmiaa
/- THE CELL 'sum', in the pinned program and in every row, IS THE sha256 OF THE DUMP (.gsa) THAT YtggpfmemfdlmiaaProg.lean LOADS. Nothing in Lean hashes anything: it is a label: what it is worth is what the hold of that sum in a sandbox is worth. -/
noncomputable def Try.pinned : Pinned := { name := "ytggpfmemfdlmiaa", sum := "32c32c970c29a745499fc06872e452cfa378b89ff89b0ddea1c662130791c89c", checked := Try.checked }
namespace Rows
def none {H : Type} : Left H := { results := [], args := [] }

/-- 'rowlocklaw05.SeqlockSince': WHATEVER THE INPUT: true; the input reads as it did. -/
def seqlockSinceSpec : ChangeSpec := { name := "seqlockSince", fn := fun _ => fun
  | [d1, d2, d3] => { results := [.lit (.bool true)], args := [d1, d2, d3] }
  | _ => none }
def seqlockSinceRow : OpenClaim := { program := "ytggpfmemfdlmiaa", sum := "32c32c970c29a745499fc06872e452cfa378b89ff89b0ddea1c662130791c89c", func := "rowlock/rowlocklaw05.SeqlockSince", spec := "seqlockSince", unfollowed := true, recurses := true, apart := false }
def SeqlockSinceSaid : Prop := seqlockSinceRow.holds Try.pinned (OpenSpec.ofChange seqlockSinceSpec)

/-- ITS FALSE NEIGHBOUR: 'it returns false'. Refute it at one input. -/
def seqlockSinceWrong : ChangeSpec := { name := "seqlockSince", fn := fun _ => fun
  | [d1, d2, d3] => { results := [.lit (.bool false)], args := [d1, d2, d3] }
  | _ => none }
def SeqlockSinceWrongFalsely : Prop := seqlockSinceRow.holds Try.pinned (OpenSpec.ofChange seqlockSinceWrong)

/-- 'rowlocklaw05.SeqlockPlays': WHATEVER THE INPUT: true; the input reads as it did. -/
def seqlockPlaysSpec : ChangeSpec := { name := "seqlockPlays", fn := fun _ => fun
  | [d1, d2] => { results := [.lit (.bool true)], args := [d1, d2] }
  | _ => none }
def seqlockPlaysRow : OpenClaim := { program := "ytggpfmemfdlmiaa", sum := "32c32c970c29a745499fc06872e452cfa378b89ff89b0ddea1c662130791c89c", func := "rowlock/rowlocklaw05.SeqlockPlays", spec := "seqlockPlays", unfollowed := true, recurses := true, apart := false }
def SeqlockPlaysSaid : Prop := seqlockPlaysRow.holds Try.pinned (OpenSpec.ofChange seqlockPlaysSpec)

/-- ITS FALSE NEIGHBOUR: 'it returns false'. Refute it at one input. -/
def seqlockPlaysWrong : ChangeSpec := { name := "seqlockPlays", fn := fun _ => fun
  | [d1, d2] => { results := [.lit (.bool false)], args := [d1, d2] }
  | _ => none }
def SeqlockPlaysWrongFalsely : Prop := seqlockPlaysRow.holds Try.pinned (OpenSpec.ofChange seqlockPlaysWrong)

/-- 'rowlocklaw05.SeqlockEven': WHATEVER THE INPUT: true; the input reads as it did. -/
def seqlockEvenSpec : ChangeSpec := { name := "seqlockEven", fn := fun _ => fun
  | [d] => { results := [.lit (.bool true)], args := [d] }
  | _ => none }
def seqlockEvenRow : OpenClaim := { program := "ytggpfmemfdlmiaa", sum := "32c32c970c29a745499fc06872e452cfa378b89ff89b0ddea1c662130791c89c", func := "rowlock/rowlocklaw05.SeqlockEven", spec := "seqlockEven", unfollowed := true, recurses := true, apart := false }
def SeqlockEvenSaid : Prop := seqlockEvenRow.holds Try.pinned (OpenSpec.ofChange seqlockEvenSpec)

/-- ITS FALSE NEIGHBOUR: 'it returns false'. Refute it at one input. -/
def seqlockEvenWrong : ChangeSpec := { name := "seqlockEven", fn := fun _ => fun
  | [d] => { results := [.lit (.bool false)], args := [d] }
  | _ => none }
def SeqlockEvenWrongFalsely : Prop := seqlockEvenRow.holds Try.pinned (OpenSpec.ofChange seqlockEvenWrong)

/-- 'rowlocklaw05.SeqlockForks': WHATEVER THE INPUT: true; the input reads as it did. -/
def seqlockForksSpec : ChangeSpec := { name := "seqlockForks", fn := fun _ => fun
  | [d1, d2] => { results := [.lit (.bool true)], args := [d1, d2] }
  | _ => none }
def seqlockForksRow : OpenClaim := { program := "ytggpfmemfdlmiaa", sum := "32c32c970c29a745499fc06872e452cfa378b89ff89b0ddea1c662130791c89c", func := "rowlock/rowlocklaw05.SeqlockForks", spec := "seqlockForks", unfollowed := true, recurses := true, apart := false }
def SeqlockForksSaid : Prop := seqlockForksRow.holds Try.pinned (OpenSpec.ofChange seqlockForksSpec)

/-- ITS FALSE NEIGHBOUR: 'it returns false'. Refute it at one input. -/
def seqlockForksWrong : ChangeSpec := { name := "seqlockForks", fn := fun _ => fun
  | [d1, d2] => { results := [.lit (.bool false)], args := [d1, d2] }
  | _ => none }
def SeqlockForksWrongFalsely : Prop := seqlockForksRow.holds Try.pinned (OpenSpec.ofChange seqlockForksWrong)

/-- 'rowlocklaw05.SeqlockNone': WHATEVER THE INPUT: true; the input reads as it did. -/
def seqlockNoneSpec : ChangeSpec := { name := "seqlockNone", fn := fun _ => fun
  | [d] => { results := [.lit (.bool true)], args := [d] }
  | _ => none }
def seqlockNoneRow : OpenClaim := { program := "ytggpfmemfdlmiaa", sum := "32c32c970c29a745499fc06872e452cfa378b89ff89b0ddea1c662130791c89c", func := "rowlock/rowlocklaw05.SeqlockNone", spec := "seqlockNone", unfollowed := true, recurses := true, apart := false }
def SeqlockNoneSaid : Prop := seqlockNoneRow.holds Try.pinned (OpenSpec.ofChange seqlockNoneSpec)

/-- ITS FALSE NEIGHBOUR: 'it returns false'. Refute it at one input. -/
def seqlockNoneWrong : ChangeSpec := { name := "seqlockNone", fn := fun _ => fun
  | [d] => { results := [.lit (.bool false)], args := [d] }
  | _ => none }
def SeqlockNoneWrongFalsely : Prop := seqlockNoneRow.holds Try.pinned (OpenSpec.ofChange seqlockNoneWrong)

/- THE SECOND FORM. 'bulk': how many values and letters a reading holds, each counted each time it is reached (what is shared counts as often as it is met; a slice's spare places count too). A statement '..UptoSaid' is the law's where the arguments, and the package variables that the reading takes, are together of bulk at most 1048576: NARROWER than '..Said'. Prove '..Said' where nothing that the law and all that it calls make is longer than what came in: it says more and counts as full. Else prove '..UptoSaid'. A law counts once. -/
mutual
def uptoBulk {H : Type} : DataW H → Nat
  | .lit (.string bytes) => bytes.length + 1
  | .lit _ => 1
  | .nil => 1
  | .ptr d => uptoBulk d + 1
  | .slice elems spare => uptoBulkAll elems + uptoBulkAll spare + 1
  | .agg parts => uptoBulkAll parts + 1
  | .iface _ d => uptoBulk d + 1
  | .map entries => uptoBulkEntries entries + 1
  | .held _ => 1
def uptoBulkAll {H : Type} : List (DataW H) → Nat
  | [] => 0
  | d :: r => uptoBulk d + uptoBulkAll r
def uptoBulkEntries {H : Type} : List (Lit × DataW H) → Nat
  | [] => 0
  | x :: r => uptoBulkEntry x + uptoBulkEntries r
def uptoBulkEntry {H : Type} : Lit × DataW H → Nat
  | (.string bytes, d) => bytes.length + uptoBulk d + 1
  | (_, d) => uptoBulk d + 1
 end
def uptoSmall : (H : Type) → List (DataW H) → Bool := fun _ ds => decide (uptoBulkAll ds ≤ 1048576)
def OpenSpec.upto (s : _root_.Go.ChangeSpec) : _root_.Go.OpenSpec := { _root_.Go.OpenSpec.ofChange s with cond := some uptoSmall }

/-- 'rowlocklaw05.SeqlockSince', WHERE WHAT IT READS IS OF BULK AT MOST 1048576: true; the input reads as it did. -/
def seqlockSinceUptoRow : OpenClaim := { program := "ytggpfmemfdlmiaa", sum := "32c32c970c29a745499fc06872e452cfa378b89ff89b0ddea1c662130791c89c", func := "rowlock/rowlocklaw05.SeqlockSince", spec := "seqlockSince", unfollowed := true, recurses := true, apart := false, narrowed := true }
def SeqlockSinceUptoSaid : Prop := seqlockSinceUptoRow.holds Try.pinned (OpenSpec.upto seqlockSinceSpec)

/-- 'rowlocklaw05.SeqlockPlays', WHERE WHAT IT READS IS OF BULK AT MOST 1048576: true; the input reads as it did. -/
def seqlockPlaysUptoRow : OpenClaim := { program := "ytggpfmemfdlmiaa", sum := "32c32c970c29a745499fc06872e452cfa378b89ff89b0ddea1c662130791c89c", func := "rowlock/rowlocklaw05.SeqlockPlays", spec := "seqlockPlays", unfollowed := true, recurses := true, apart := false, narrowed := true }
def SeqlockPlaysUptoSaid : Prop := seqlockPlaysUptoRow.holds Try.pinned (OpenSpec.upto seqlockPlaysSpec)

/-- 'rowlocklaw05.SeqlockEven', WHERE WHAT IT READS IS OF BULK AT MOST 1048576: true; the input reads as it did. -/
def seqlockEvenUptoRow : OpenClaim := { program := "ytggpfmemfdlmiaa", sum := "32c32c970c29a745499fc06872e452cfa378b89ff89b0ddea1c662130791c89c", func := "rowlock/rowlocklaw05.SeqlockEven", spec := "seqlockEven", unfollowed := true, recurses := true, apart := false, narrowed := true }
def SeqlockEvenUptoSaid : Prop := seqlockEvenUptoRow.holds Try.pinned (OpenSpec.upto seqlockEvenSpec)

/-- 'rowlocklaw05.SeqlockForks', WHERE WHAT IT READS IS OF BULK AT MOST 1048576: true; the input reads as it did. -/
def seqlockForksUptoRow : OpenClaim := { program := "ytggpfmemfdlmiaa", sum := "32c32c970c29a745499fc06872e452cfa378b89ff89b0ddea1c662130791c89c", func := "rowlock/rowlocklaw05.SeqlockForks", spec := "seqlockForks", unfollowed := true, recurses := true, apart := false, narrowed := true }
def SeqlockForksUptoSaid : Prop := seqlockForksUptoRow.holds Try.pinned (OpenSpec.upto seqlockForksSpec)

/-- 'rowlocklaw05.SeqlockNone', WHERE WHAT IT READS IS OF BULK AT MOST 1048576: true; the input reads as it did. -/
def seqlockNoneUptoRow : OpenClaim := { program := "ytggpfmemfdlmiaa", sum := "32c32c970c29a745499fc06872e452cfa378b89ff89b0ddea1c662130791c89c", func := "rowlock/rowlocklaw05.SeqlockNone", spec := "seqlockNone", unfollowed := true, recurses := true, apart := false, narrowed := true }
def SeqlockNoneUptoSaid : Prop := seqlockNoneUptoRow.holds Try.pinned (OpenSpec.upto seqlockNoneSpec)

end Rows
end Go.Proofs.Ytggpfmemfdlmiaa
